/- What the law rests on, part 4 of 4: a reading of the program's code over told data, and what it comes to. -/
import Derived.Test.YtofbbijagbpicaaWr2
namespace Go.Proofs.Ytofbbijagbpicaa.Pi.Q
open Go Go.Proofs.Ytofbbijagbpicaa.Pi
set_option linter.unusedVariables false
set_option linter.unusedSimpArgs false
set_option maxRecDepth 100000
attribute [local congr] ite_congr
variable {c : Nat} {H : Heap} {L : List Box} {acc : List UInt8}
def kField (v : FT) (acc : List UInt8) : KR :=
  (if v.ty = ⟨6, false, 0⟩ then kPut [120] acc else if v.ty = ⟨7, false, 0⟩ then kPut [119] acc else kVal v.ty acc).bind fun _ acc => kPut [if v.mu then 1 else 0] acc
theorem fieldK {v : FT} (hc : c < List.length H) : runK c (C k_entry_pen_field [.ptr c 0, .agg [.int .i64 v.ty.num, .bool v.ty.nul, .int .i64 v.ty.heap, .bool v.mu]]) (St H c (pB acc) L) = outK c H L pB encU (kField v acc) := liftK (fun H hc => by
  have h1 := fun L acc => byteK (c := c) (H := H) (L := L) (acc := acc) (n := 120) (by omega) (by omega) hc
  have h0 := fun L acc => byteK (c := c) (H := H) (L := L) (acc := acc) (n := 119) (by omega) (by omega) hc
  have he := fun K n => eql_V (H := K) (v := v.ty) (n := n)
  have hv := fun L acc => valK (c := c) (H := H) (L := L) (acc := acc) (v := v.ty) hc
  have hf := fun L acc => flagK (c := c) (H := H) (L := L) (acc := acc) (b := v.mu) hc
  rw [entry_pen_field_eq]
  unfold kField
  simp (contextual := true) (dsimp := false) (disch := omega) only [↓kDown, kUp, ↓goDown, goUp, List.length_cons, List.length_nil, List.map_cons, List.map_nil, List.take_succ_cons, List.take_zero, List.drop_succ_cons, List.drop_zero, List.drop_nil, List.take_nil, List.cons_append, List.nil_append, List.append_nil, List.set_cons_zero, List.set_cons_succ, List.all_cons, List.all_nil, ↓reduceIte, reduceCtorEq, ge_iff_le, gt_iff_lt, eq_self_iff_true, beq_self_eq_true, beq_iff_eq, bne_iff_ne, ne_eq, ite_not, Int.reduceEq, Option.getD_some, Option.getD_none, ite_self, Nat.reduceAdd, Nat.reduceSub, Nat.reduceMul, Nat.reduceLeDiff, Nat.reduceEqDiff, Nat.reduceBEq, Nat.reduceBNe, Int.reduceLT, Int.reduceLE, Int.reduceAdd, Int.reduceSub, Int.reduceMul, Int.reduceNeg, Int.reduceNe, Int.reduceBEq, Int.reduceBNe, Int.reduceToNat, he, h1, h0, hv, hf, p_entry_pen_field_11_eq, encU_is]
  rfl) hc
def kAll {α : Type} (one : α → List UInt8 → KR) : List α → List UInt8 → KR
  | [], acc => .ok () acc
  | v :: r, acc => (one v acc).bind fun _ acc => kAll one r acc
def kEach {α : Type} (most : Nat) (one : α → List UInt8 → KR) (l : List α) (acc : List UInt8) : KR :=
  if most < l.length then .err y_entry_fault [0, 2] else (kPut (putU l.length) acc).bind fun _ acc => kAll one l acc
theorem kvalLoop {z : Bool} {one : VT → List UInt8 → KR} {f : PV} {l : List VT} (hl : l.length < 2 ^ 62) (hf : strip f = f) (hone : ∀ (H : Heap) (L : List Box) (acc : List UInt8) (v : VT), v ∈ l → c < List.length H → runK c (callV P C f [.agg [.int .i64 v.num, .bool v.nul, .int .i64 v.heap]]) (St H c (pB acc) L) = outK c H L pB encU (one v acc)) : ∀ (m i : Nat) (acc : List UInt8) (L : List Box) (H : Heap), i + m = l.length → c < List.length H →
    ∃ L', runK c (p_entry_each_api_ValType_1110 f (LZ z 3 (l.map encV)) (.int .i64 l.length) (.int .i64 i)) (St H c (pB acc) L) = outK c H L' pB encU (kAll one (l.drop i) acc)
  | 0, i, acc, L, H, hi, hc => by
    have c1 : ¬ (i : Int) < l.length := by omega
    have e0 : l.drop i = [] := List.drop_eq_nil_of_le (by omega)
    refine ⟨L, ?_⟩
    rw [e0, p_entry_each_api_ValType_1110_eq]
    simp (contextual := true) (dsimp := false) (disch := omega) only [↓kDown, kUp, ↓goDown, goUp, List.length_cons, List.length_nil, List.map_cons, List.map_nil, List.take_succ_cons, List.take_zero, List.drop_succ_cons, List.drop_zero, List.drop_nil, List.take_nil, List.cons_append, List.nil_append, List.append_nil, List.set_cons_zero, List.set_cons_succ, List.all_cons, List.all_nil, ↓reduceIte, reduceCtorEq, ge_iff_le, gt_iff_lt, eq_self_iff_true, beq_self_eq_true, beq_iff_eq, bne_iff_ne, ne_eq, ite_not, Int.reduceEq, Option.getD_some, Option.getD_none, ite_self, Nat.reduceAdd, Nat.reduceSub, Nat.reduceMul, Nat.reduceLeDiff, Nat.reduceEqDiff, Nat.reduceBEq, Nat.reduceBNe, Int.reduceLT, Int.reduceLE, Int.reduceAdd, Int.reduceSub, Int.reduceMul, Int.reduceNeg, Int.reduceNe, Int.reduceBEq, Int.reduceBNe, Int.reduceToNat, c1, kAll, encU_is]
  | m + 1, i, acc, L, H, hi, hc => by
    have c1 : (i : Int) < l.length := by omega
    have hil : i < l.length := by omega
    have hg : (l.map encV)[i]? = some (encV l[i]) := by simp [hil]
    have hia : ∀ K, run (iaS 3 (LZ z 3 (l.map encV)) (.int .i64 i)) K = some (.ok (.elem [.int .i64 l[i].num, .bool l[i].nul, .int .i64 l[i].heap]) K) := fun K => (ia_Z hg).trans rfl
    have hd : l.drop i = l[i] :: l.drop (i + 1) := List.drop_eq_getElem_cons hil
    have e1 : ((i : Int) + 1) = ((i + 1 : Nat) : Int) := rfl
    rw [hd, St_flat hc]
    have hc' : c < List.length (hadd H L) := by rw [len_add]; omega
    obtain ⟨K, hK⟩ : ∃ K, K = hadd H L := ⟨_, rfl⟩
    rw [← hK] at hc' ⊢
    have h1 := hone K [.cells [.int .i64 l[i].num, .bool l[i].nul, .int .i64 l[i].heap]] acc l[i] (List.getElem_mem hil) hc'
    simp only [kAll]
    cases hw : one l[i] acc with
    | ok u acc1 =>
      obtain ⟨L', ih⟩ := kvalLoop (z := z) hl hf hone m (i + 1) acc1 [.cells [.int .i64 l[i].num, .bool l[i].nul, .int .i64 l[i].heap]] K (by omega) hc'
      refine ⟨L ++ L', ?_⟩
      rw [← outK_out hK hc]
      rw [p_entry_each_api_ValType_1110_eq]
      rw [hw] at h1
      simp (contextual := true) (dsimp := false) (disch := omega) only [↓kDown, kUp, ↓goDown, goUp, List.length_cons, List.length_nil, List.map_cons, List.map_nil, List.take_succ_cons, List.take_zero, List.drop_succ_cons, List.drop_zero, List.drop_nil, List.take_nil, List.cons_append, List.nil_append, List.append_nil, List.set_cons_zero, List.set_cons_succ, List.all_cons, List.all_nil, ↓reduceIte, reduceCtorEq, ge_iff_le, gt_iff_lt, eq_self_iff_true, beq_self_eq_true, beq_iff_eq, bne_iff_ne, ne_eq, ite_not, Int.reduceEq, Option.getD_some, Option.getD_none, ite_self, Nat.reduceAdd, Nat.reduceSub, Nat.reduceMul, Nat.reduceLeDiff, Nat.reduceEqDiff, Nat.reduceBEq, Nat.reduceBNe, Int.reduceLT, Int.reduceLE, Int.reduceAdd, Int.reduceSub, Int.reduceMul, Int.reduceNeg, Int.reduceNe, Int.reduceBEq, Int.reduceBNe, Int.reduceToNat, c1, hia, hf, e1, h1, ih, Res.bind, cells_Z, isCell_Z, low_Z, stripC_Z, isTup_Z, strip_Z]
    | err t w =>
      refine ⟨L ++ [.cells [.int .i64 l[i].num, .bool l[i].nul, .int .i64 l[i].heap]], ?_⟩
      rw [← outK_out hK hc]
      rw [p_entry_each_api_ValType_1110_eq]
      rw [hw] at h1
      simp (contextual := true) (dsimp := false) (disch := omega) only [↓kDown, kUp, ↓goDown, goUp, List.length_cons, List.length_nil, List.map_cons, List.map_nil, List.take_succ_cons, List.take_zero, List.drop_succ_cons, List.drop_zero, List.drop_nil, List.take_nil, List.cons_append, List.nil_append, List.append_nil, List.set_cons_zero, List.set_cons_succ, List.all_cons, List.all_nil, ↓reduceIte, reduceCtorEq, ge_iff_le, gt_iff_lt, eq_self_iff_true, beq_self_eq_true, beq_iff_eq, bne_iff_ne, ne_eq, ite_not, Int.reduceEq, Option.getD_some, Option.getD_none, ite_self, Nat.reduceAdd, Nat.reduceSub, Nat.reduceMul, Nat.reduceLeDiff, Nat.reduceEqDiff, Nat.reduceBEq, Nat.reduceBNe, Int.reduceLT, Int.reduceLE, Int.reduceAdd, Int.reduceSub, Int.reduceMul, Int.reduceNeg, Int.reduceNe, Int.reduceBEq, Int.reduceBNe, Int.reduceToNat, c1, hia, hf, e1, h1, Res.bind, cells_Z, isCell_Z, low_Z, stripC_Z, isTup_Z, strip_Z]
    | no =>
      refine ⟨L, ?_⟩
      rw [p_entry_each_api_ValType_1110_eq]
      rw [hw] at h1
      simp (contextual := true) (dsimp := false) (disch := omega) only [↓kDown, kUp, ↓goDown, goUp, List.length_cons, List.length_nil, List.map_cons, List.map_nil, List.take_succ_cons, List.take_zero, List.drop_succ_cons, List.drop_zero, List.drop_nil, List.take_nil, List.cons_append, List.nil_append, List.append_nil, List.set_cons_zero, List.set_cons_succ, List.all_cons, List.all_nil, ↓reduceIte, reduceCtorEq, ge_iff_le, gt_iff_lt, eq_self_iff_true, beq_self_eq_true, beq_iff_eq, bne_iff_ne, ne_eq, ite_not, Int.reduceEq, Option.getD_some, Option.getD_none, ite_self, Nat.reduceAdd, Nat.reduceSub, Nat.reduceMul, Nat.reduceLeDiff, Nat.reduceEqDiff, Nat.reduceBEq, Nat.reduceBNe, Int.reduceLT, Int.reduceLE, Int.reduceAdd, Int.reduceSub, Int.reduceMul, Int.reduceNeg, Int.reduceNe, Int.reduceBEq, Int.reduceBNe, Int.reduceToNat, c1, hia, hf, e1, h1, Res.bind, cells_Z, isCell_Z, low_Z, stripC_Z, isTup_Z, strip_Z]
theorem kvalEach {z : Bool} {one : VT → List UInt8 → KR} {f : PV} {l : List VT} {most : Nat} (hf : strip f = f) (hm : most ≤ 1000000) (hl : l.length < 2 ^ 62) (hone : ∀ (H : Heap) (L : List Box) (acc : List UInt8) (v : VT), v ∈ l → c < List.length H → runK c (callV P C f [.agg [.int .i64 v.num, .bool v.nul, .int .i64 v.heap]]) (St H c (pB acc) L) = outK c H L pB encU (one v acc)) (hc : c < List.length H) :
    runK c (C k_entry_each_api_ValType [.ptr c 0, LZ z 3 (l.map encV), .int .i64 most, f]) (St H c (pB acc) L) = outK c H L pB encU (kEach most one l acc) := liftK (fun H hc => by
  have hu := fun L acc h0 h1 => uK (c := c) (H := H) (L := L) (acc := acc) (n := (l.length : Int)) h0 h1 hc
  rw [entry_each_api_ValType_eq]
  unfold kEach
  by_cases h : most < l.length
  · have c1 : (most : Int) < l.length := by omega
    simp (contextual := true) (dsimp := false) (disch := omega) only [↓kDown, kUp, ↓goDown, goUp, List.length_cons, List.length_nil, List.map_cons, List.map_nil, List.take_succ_cons, List.take_zero, List.drop_succ_cons, List.drop_zero, List.drop_nil, List.take_nil, List.cons_append, List.nil_append, List.append_nil, List.set_cons_zero, List.set_cons_succ, List.all_cons, List.all_nil, ↓reduceIte, reduceCtorEq, ge_iff_le, gt_iff_lt, eq_self_iff_true, beq_self_eq_true, beq_iff_eq, bne_iff_ne, ne_eq, ite_not, Int.reduceEq, Option.getD_some, Option.getD_none, ite_self, Nat.reduceAdd, Nat.reduceSub, Nat.reduceMul, Nat.reduceLeDiff, Nat.reduceEqDiff, Nat.reduceBEq, Nat.reduceBNe, Int.reduceLT, Int.reduceLE, Int.reduceAdd, Int.reduceSub, Int.reduceMul, Int.reduceNeg, Int.reduceNe, Int.reduceBEq, Int.reduceBNe, Int.reduceToNat, if_pos h, strip_Z, ln_Z, List.length_map, c1]
  · have c1 : ¬ (most : Int) < l.length := by omega
    have hw : IntKind.u64.wrap (l.length : Int) = l.length := by rw [wu]; omega
    have hlp := fun acc => kvalLoop (c := c) (z := z) hl hf hone l.length 0 acc [] H (by omega) hc
    rw [if_neg h]
    obtain ⟨L1, hlp⟩ := hlp (acc ++ putU l.length)
    have hlp : runK c (p_entry_each_api_ValType_1110 f (LZ z 3 (l.map encV)) (.int .i64 l.length) (.int .i64 0)) (St H c (pB (acc ++ putU l.length)) []) = outK c H L1 pB encU (kAll one l (acc ++ putU l.length)) := hlp
    unfold kPut at hu ⊢
    simp (contextual := true) (dsimp := false) (disch := omega) only [↓kDown, kUp, ↓goDown, goUp, List.length_cons, List.length_nil, List.map_cons, List.map_nil, List.take_succ_cons, List.take_zero, List.drop_succ_cons, List.drop_zero, List.drop_nil, List.take_nil, List.cons_append, List.nil_append, List.append_nil, List.set_cons_zero, List.set_cons_succ, List.all_cons, List.all_nil, ↓reduceIte, reduceCtorEq, ge_iff_le, gt_iff_lt, eq_self_iff_true, beq_self_eq_true, beq_iff_eq, bne_iff_ne, ne_eq, ite_not, Int.reduceEq, Option.getD_some, Option.getD_none, ite_self, Nat.reduceAdd, Nat.reduceSub, Nat.reduceMul, Nat.reduceLeDiff, Nat.reduceEqDiff, Nat.reduceBEq, Nat.reduceBNe, Int.reduceLT, Int.reduceLE, Int.reduceAdd, Int.reduceSub, Int.reduceMul, Int.reduceNeg, Int.reduceNe, Int.reduceBEq, Int.reduceBNe, Int.reduceToNat, strip_Z, ln_Z, List.length_map, c1, p_entry_each_api_ValType_1_eq, hw, hu, hlp, Int.toNat_natCast, hf, encU_is]) hc
theorem kfieldLoop {z : Bool} {one : FT → List UInt8 → KR} {f : PV} {l : List FT} (hl : l.length < 2 ^ 62) (hf : strip f = f) (hone : ∀ (H : Heap) (L : List Box) (acc : List UInt8) (v : FT), v ∈ l → c < List.length H → runK c (callV P C f [.agg [.int .i64 v.ty.num, .bool v.ty.nul, .int .i64 v.ty.heap, .bool v.mu]]) (St H c (pB acc) L) = outK c H L pB encU (one v acc)) : ∀ (m i : Nat) (acc : List UInt8) (L : List Box) (H : Heap), i + m = l.length → c < List.length H →
    ∃ L', runK c (p_entry_each_api_Field_1110 f (LZ z 4 (l.map encF)) (.int .i64 l.length) (.int .i64 i)) (St H c (pB acc) L) = outK c H L' pB encU (kAll one (l.drop i) acc)
  | 0, i, acc, L, H, hi, hc => by
    have c1 : ¬ (i : Int) < l.length := by omega
    have e0 : l.drop i = [] := List.drop_eq_nil_of_le (by omega)
    refine ⟨L, ?_⟩
    rw [e0, p_entry_each_api_Field_1110_eq]
    simp (contextual := true) (dsimp := false) (disch := omega) only [↓kDown, kUp, ↓goDown, goUp, List.length_cons, List.length_nil, List.map_cons, List.map_nil, List.take_succ_cons, List.take_zero, List.drop_succ_cons, List.drop_zero, List.drop_nil, List.take_nil, List.cons_append, List.nil_append, List.append_nil, List.set_cons_zero, List.set_cons_succ, List.all_cons, List.all_nil, ↓reduceIte, reduceCtorEq, ge_iff_le, gt_iff_lt, eq_self_iff_true, beq_self_eq_true, beq_iff_eq, bne_iff_ne, ne_eq, ite_not, Int.reduceEq, Option.getD_some, Option.getD_none, ite_self, Nat.reduceAdd, Nat.reduceSub, Nat.reduceMul, Nat.reduceLeDiff, Nat.reduceEqDiff, Nat.reduceBEq, Nat.reduceBNe, Int.reduceLT, Int.reduceLE, Int.reduceAdd, Int.reduceSub, Int.reduceMul, Int.reduceNeg, Int.reduceNe, Int.reduceBEq, Int.reduceBNe, Int.reduceToNat, c1, kAll, encU_is]
  | m + 1, i, acc, L, H, hi, hc => by
    have c1 : (i : Int) < l.length := by omega
    have hil : i < l.length := by omega
    have hg : (l.map encF)[i]? = some (encF l[i]) := by simp [hil]
    have hia : ∀ K, run (iaS 4 (LZ z 4 (l.map encF)) (.int .i64 i)) K = some (.ok (.elem [.int .i64 l[i].ty.num, .bool l[i].ty.nul, .int .i64 l[i].ty.heap, .bool l[i].mu]) K) := fun K => (ia_Z hg).trans rfl
    have hd : l.drop i = l[i] :: l.drop (i + 1) := List.drop_eq_getElem_cons hil
    have e1 : ((i : Int) + 1) = ((i + 1 : Nat) : Int) := rfl
    rw [hd, St_flat hc]
    have hc' : c < List.length (hadd H L) := by rw [len_add]; omega
    obtain ⟨K, hK⟩ : ∃ K, K = hadd H L := ⟨_, rfl⟩
    rw [← hK] at hc' ⊢
    have h1 := hone K [.cells [.int .i64 l[i].ty.num, .bool l[i].ty.nul, .int .i64 l[i].ty.heap, .bool l[i].mu]] acc l[i] (List.getElem_mem hil) hc'
    simp only [kAll]
    cases hw : one l[i] acc with
    | ok u acc1 =>
      obtain ⟨L', ih⟩ := kfieldLoop (z := z) hl hf hone m (i + 1) acc1 [.cells [.int .i64 l[i].ty.num, .bool l[i].ty.nul, .int .i64 l[i].ty.heap, .bool l[i].mu]] K (by omega) hc'
      refine ⟨L ++ L', ?_⟩
      rw [← outK_out hK hc]
      rw [p_entry_each_api_Field_1110_eq]
      rw [hw] at h1
      simp (contextual := true) (dsimp := false) (disch := omega) only [↓kDown, kUp, ↓goDown, goUp, List.length_cons, List.length_nil, List.map_cons, List.map_nil, List.take_succ_cons, List.take_zero, List.drop_succ_cons, List.drop_zero, List.drop_nil, List.take_nil, List.cons_append, List.nil_append, List.append_nil, List.set_cons_zero, List.set_cons_succ, List.all_cons, List.all_nil, ↓reduceIte, reduceCtorEq, ge_iff_le, gt_iff_lt, eq_self_iff_true, beq_self_eq_true, beq_iff_eq, bne_iff_ne, ne_eq, ite_not, Int.reduceEq, Option.getD_some, Option.getD_none, ite_self, Nat.reduceAdd, Nat.reduceSub, Nat.reduceMul, Nat.reduceLeDiff, Nat.reduceEqDiff, Nat.reduceBEq, Nat.reduceBNe, Int.reduceLT, Int.reduceLE, Int.reduceAdd, Int.reduceSub, Int.reduceMul, Int.reduceNeg, Int.reduceNe, Int.reduceBEq, Int.reduceBNe, Int.reduceToNat, c1, hia, hf, e1, h1, ih, Res.bind, cells_Z, isCell_Z, low_Z, stripC_Z, isTup_Z, strip_Z]
    | err t w =>
      refine ⟨L ++ [.cells [.int .i64 l[i].ty.num, .bool l[i].ty.nul, .int .i64 l[i].ty.heap, .bool l[i].mu]], ?_⟩
      rw [← outK_out hK hc]
      rw [p_entry_each_api_Field_1110_eq]
      rw [hw] at h1
      simp (contextual := true) (dsimp := false) (disch := omega) only [↓kDown, kUp, ↓goDown, goUp, List.length_cons, List.length_nil, List.map_cons, List.map_nil, List.take_succ_cons, List.take_zero, List.drop_succ_cons, List.drop_zero, List.drop_nil, List.take_nil, List.cons_append, List.nil_append, List.append_nil, List.set_cons_zero, List.set_cons_succ, List.all_cons, List.all_nil, ↓reduceIte, reduceCtorEq, ge_iff_le, gt_iff_lt, eq_self_iff_true, beq_self_eq_true, beq_iff_eq, bne_iff_ne, ne_eq, ite_not, Int.reduceEq, Option.getD_some, Option.getD_none, ite_self, Nat.reduceAdd, Nat.reduceSub, Nat.reduceMul, Nat.reduceLeDiff, Nat.reduceEqDiff, Nat.reduceBEq, Nat.reduceBNe, Int.reduceLT, Int.reduceLE, Int.reduceAdd, Int.reduceSub, Int.reduceMul, Int.reduceNeg, Int.reduceNe, Int.reduceBEq, Int.reduceBNe, Int.reduceToNat, c1, hia, hf, e1, h1, Res.bind, cells_Z, isCell_Z, low_Z, stripC_Z, isTup_Z, strip_Z]
    | no =>
      refine ⟨L, ?_⟩
      rw [p_entry_each_api_Field_1110_eq]
      rw [hw] at h1
      simp (contextual := true) (dsimp := false) (disch := omega) only [↓kDown, kUp, ↓goDown, goUp, List.length_cons, List.length_nil, List.map_cons, List.map_nil, List.take_succ_cons, List.take_zero, List.drop_succ_cons, List.drop_zero, List.drop_nil, List.take_nil, List.cons_append, List.nil_append, List.append_nil, List.set_cons_zero, List.set_cons_succ, List.all_cons, List.all_nil, ↓reduceIte, reduceCtorEq, ge_iff_le, gt_iff_lt, eq_self_iff_true, beq_self_eq_true, beq_iff_eq, bne_iff_ne, ne_eq, ite_not, Int.reduceEq, Option.getD_some, Option.getD_none, ite_self, Nat.reduceAdd, Nat.reduceSub, Nat.reduceMul, Nat.reduceLeDiff, Nat.reduceEqDiff, Nat.reduceBEq, Nat.reduceBNe, Int.reduceLT, Int.reduceLE, Int.reduceAdd, Int.reduceSub, Int.reduceMul, Int.reduceNeg, Int.reduceNe, Int.reduceBEq, Int.reduceBNe, Int.reduceToNat, c1, hia, hf, e1, h1, Res.bind, cells_Z, isCell_Z, low_Z, stripC_Z, isTup_Z, strip_Z]
theorem kfieldEach {z : Bool} {one : FT → List UInt8 → KR} {f : PV} {l : List FT} {most : Nat} (hf : strip f = f) (hm : most ≤ 1000000) (hl : l.length < 2 ^ 62) (hone : ∀ (H : Heap) (L : List Box) (acc : List UInt8) (v : FT), v ∈ l → c < List.length H → runK c (callV P C f [.agg [.int .i64 v.ty.num, .bool v.ty.nul, .int .i64 v.ty.heap, .bool v.mu]]) (St H c (pB acc) L) = outK c H L pB encU (one v acc)) (hc : c < List.length H) :
    runK c (C k_entry_each_api_Field [.ptr c 0, LZ z 4 (l.map encF), .int .i64 most, f]) (St H c (pB acc) L) = outK c H L pB encU (kEach most one l acc) := liftK (fun H hc => by
  have hu := fun L acc h0 h1 => uK (c := c) (H := H) (L := L) (acc := acc) (n := (l.length : Int)) h0 h1 hc
  rw [entry_each_api_Field_eq]
  unfold kEach
  by_cases h : most < l.length
  · have c1 : (most : Int) < l.length := by omega
    simp (contextual := true) (dsimp := false) (disch := omega) only [↓kDown, kUp, ↓goDown, goUp, List.length_cons, List.length_nil, List.map_cons, List.map_nil, List.take_succ_cons, List.take_zero, List.drop_succ_cons, List.drop_zero, List.drop_nil, List.take_nil, List.cons_append, List.nil_append, List.append_nil, List.set_cons_zero, List.set_cons_succ, List.all_cons, List.all_nil, ↓reduceIte, reduceCtorEq, ge_iff_le, gt_iff_lt, eq_self_iff_true, beq_self_eq_true, beq_iff_eq, bne_iff_ne, ne_eq, ite_not, Int.reduceEq, Option.getD_some, Option.getD_none, ite_self, Nat.reduceAdd, Nat.reduceSub, Nat.reduceMul, Nat.reduceLeDiff, Nat.reduceEqDiff, Nat.reduceBEq, Nat.reduceBNe, Int.reduceLT, Int.reduceLE, Int.reduceAdd, Int.reduceSub, Int.reduceMul, Int.reduceNeg, Int.reduceNe, Int.reduceBEq, Int.reduceBNe, Int.reduceToNat, if_pos h, strip_Z, ln_Z, List.length_map, c1]
  · have c1 : ¬ (most : Int) < l.length := by omega
    have hw : IntKind.u64.wrap (l.length : Int) = l.length := by rw [wu]; omega
    have hlp := fun acc => kfieldLoop (c := c) (z := z) hl hf hone l.length 0 acc [] H (by omega) hc
    rw [if_neg h]
    obtain ⟨L1, hlp⟩ := hlp (acc ++ putU l.length)
    have hlp : runK c (p_entry_each_api_Field_1110 f (LZ z 4 (l.map encF)) (.int .i64 l.length) (.int .i64 0)) (St H c (pB (acc ++ putU l.length)) []) = outK c H L1 pB encU (kAll one l (acc ++ putU l.length)) := hlp
    unfold kPut at hu ⊢
    simp (contextual := true) (dsimp := false) (disch := omega) only [↓kDown, kUp, ↓goDown, goUp, List.length_cons, List.length_nil, List.map_cons, List.map_nil, List.take_succ_cons, List.take_zero, List.drop_succ_cons, List.drop_zero, List.drop_nil, List.take_nil, List.cons_append, List.nil_append, List.append_nil, List.set_cons_zero, List.set_cons_succ, List.all_cons, List.all_nil, ↓reduceIte, reduceCtorEq, ge_iff_le, gt_iff_lt, eq_self_iff_true, beq_self_eq_true, beq_iff_eq, bne_iff_ne, ne_eq, ite_not, Int.reduceEq, Option.getD_some, Option.getD_none, ite_self, Nat.reduceAdd, Nat.reduceSub, Nat.reduceMul, Nat.reduceLeDiff, Nat.reduceEqDiff, Nat.reduceBEq, Nat.reduceBNe, Int.reduceLT, Int.reduceLE, Int.reduceAdd, Int.reduceSub, Int.reduceMul, Int.reduceNeg, Int.reduceNe, Int.reduceBEq, Int.reduceBNe, Int.reduceToNat, strip_Z, ln_Z, List.length_map, c1, p_entry_each_api_Field_1_eq, hw, hu, hlp, Int.toNat_natCast, hf, encU_is]) hc
theorem kintLoop {z : Bool} {one : Int → List UInt8 → KR} {f : PV} {l : List Int} (hl : l.length < 2 ^ 62) (hf : strip f = f) (hone : ∀ (H : Heap) (L : List Box) (acc : List UInt8) (v : Int), v ∈ l → c < List.length H → runK c (callV P C f [.int .i64 v]) (St H c (pB acc) L) = outK c H L pB encU (one v acc)) : ∀ (m i : Nat) (acc : List UInt8) (L : List Box) (H : Heap), i + m = l.length → c < List.length H →
    ∃ L', runK c (p_entry_each_int_1110 f (LZ z 1 (l.map encI)) (.int .i64 l.length) (.int .i64 i)) (St H c (pB acc) L) = outK c H L' pB encU (kAll one (l.drop i) acc)
  | 0, i, acc, L, H, hi, hc => by
    have c1 : ¬ (i : Int) < l.length := by omega
    have e0 : l.drop i = [] := List.drop_eq_nil_of_le (by omega)
    refine ⟨L, ?_⟩
    rw [e0, p_entry_each_int_1110_eq]
    simp (contextual := true) (dsimp := false) (disch := omega) only [↓kDown, kUp, ↓goDown, goUp, List.length_cons, List.length_nil, List.map_cons, List.map_nil, List.take_succ_cons, List.take_zero, List.drop_succ_cons, List.drop_zero, List.drop_nil, List.take_nil, List.cons_append, List.nil_append, List.append_nil, List.set_cons_zero, List.set_cons_succ, List.all_cons, List.all_nil, ↓reduceIte, reduceCtorEq, ge_iff_le, gt_iff_lt, eq_self_iff_true, beq_self_eq_true, beq_iff_eq, bne_iff_ne, ne_eq, ite_not, Int.reduceEq, Option.getD_some, Option.getD_none, ite_self, Nat.reduceAdd, Nat.reduceSub, Nat.reduceMul, Nat.reduceLeDiff, Nat.reduceEqDiff, Nat.reduceBEq, Nat.reduceBNe, Int.reduceLT, Int.reduceLE, Int.reduceAdd, Int.reduceSub, Int.reduceMul, Int.reduceNeg, Int.reduceNe, Int.reduceBEq, Int.reduceBNe, Int.reduceToNat, c1, kAll, encU_is]
  | m + 1, i, acc, L, H, hi, hc => by
    have c1 : (i : Int) < l.length := by omega
    have hil : i < l.length := by omega
    have hg : (l.map encI)[i]? = some (encI l[i]) := by simp [hil]
    have hia : ∀ K, run (iaS 1 (LZ z 1 (l.map encI)) (.int .i64 i)) K = some (.ok (.elem [.int .i64 l[i]]) K) := fun K => (ia_Z hg).trans rfl
    have hd : l.drop i = l[i] :: l.drop (i + 1) := List.drop_eq_getElem_cons hil
    have e1 : ((i : Int) + 1) = ((i + 1 : Nat) : Int) := rfl
    rw [hd, St_flat hc]
    have hc' : c < List.length (hadd H L) := by rw [len_add]; omega
    obtain ⟨K, hK⟩ : ∃ K, K = hadd H L := ⟨_, rfl⟩
    rw [← hK] at hc' ⊢
    have h1 := hone K [] acc l[i] (List.getElem_mem hil) hc'
    simp only [kAll]
    cases hw : one l[i] acc with
    | ok u acc1 =>
      obtain ⟨L', ih⟩ := kintLoop (z := z) hl hf hone m (i + 1) acc1 [] K (by omega) hc'
      refine ⟨L ++ L', ?_⟩
      rw [← outK_out hK hc]
      rw [p_entry_each_int_1110_eq]
      rw [hw] at h1
      simp (contextual := true) (dsimp := false) (disch := omega) only [↓kDown, kUp, ↓goDown, goUp, List.length_cons, List.length_nil, List.map_cons, List.map_nil, List.take_succ_cons, List.take_zero, List.drop_succ_cons, List.drop_zero, List.drop_nil, List.take_nil, List.cons_append, List.nil_append, List.append_nil, List.set_cons_zero, List.set_cons_succ, List.all_cons, List.all_nil, ↓reduceIte, reduceCtorEq, ge_iff_le, gt_iff_lt, eq_self_iff_true, beq_self_eq_true, beq_iff_eq, bne_iff_ne, ne_eq, ite_not, Int.reduceEq, Option.getD_some, Option.getD_none, ite_self, Nat.reduceAdd, Nat.reduceSub, Nat.reduceMul, Nat.reduceLeDiff, Nat.reduceEqDiff, Nat.reduceBEq, Nat.reduceBNe, Int.reduceLT, Int.reduceLE, Int.reduceAdd, Int.reduceSub, Int.reduceMul, Int.reduceNeg, Int.reduceNe, Int.reduceBEq, Int.reduceBNe, Int.reduceToNat, c1, hia, hf, e1, h1, ih, Res.bind, cells_Z, isCell_Z, low_Z, stripC_Z, isTup_Z, strip_Z]
    | err t w =>
      refine ⟨L ++ [], ?_⟩
      rw [← outK_out hK hc]
      rw [p_entry_each_int_1110_eq]
      rw [hw] at h1
      simp (contextual := true) (dsimp := false) (disch := omega) only [↓kDown, kUp, ↓goDown, goUp, List.length_cons, List.length_nil, List.map_cons, List.map_nil, List.take_succ_cons, List.take_zero, List.drop_succ_cons, List.drop_zero, List.drop_nil, List.take_nil, List.cons_append, List.nil_append, List.append_nil, List.set_cons_zero, List.set_cons_succ, List.all_cons, List.all_nil, ↓reduceIte, reduceCtorEq, ge_iff_le, gt_iff_lt, eq_self_iff_true, beq_self_eq_true, beq_iff_eq, bne_iff_ne, ne_eq, ite_not, Int.reduceEq, Option.getD_some, Option.getD_none, ite_self, Nat.reduceAdd, Nat.reduceSub, Nat.reduceMul, Nat.reduceLeDiff, Nat.reduceEqDiff, Nat.reduceBEq, Nat.reduceBNe, Int.reduceLT, Int.reduceLE, Int.reduceAdd, Int.reduceSub, Int.reduceMul, Int.reduceNeg, Int.reduceNe, Int.reduceBEq, Int.reduceBNe, Int.reduceToNat, c1, hia, hf, e1, h1, Res.bind, cells_Z, isCell_Z, low_Z, stripC_Z, isTup_Z, strip_Z]
    | no =>
      refine ⟨L, ?_⟩
      rw [p_entry_each_int_1110_eq]
      rw [hw] at h1
      simp (contextual := true) (dsimp := false) (disch := omega) only [↓kDown, kUp, ↓goDown, goUp, List.length_cons, List.length_nil, List.map_cons, List.map_nil, List.take_succ_cons, List.take_zero, List.drop_succ_cons, List.drop_zero, List.drop_nil, List.take_nil, List.cons_append, List.nil_append, List.append_nil, List.set_cons_zero, List.set_cons_succ, List.all_cons, List.all_nil, ↓reduceIte, reduceCtorEq, ge_iff_le, gt_iff_lt, eq_self_iff_true, beq_self_eq_true, beq_iff_eq, bne_iff_ne, ne_eq, ite_not, Int.reduceEq, Option.getD_some, Option.getD_none, ite_self, Nat.reduceAdd, Nat.reduceSub, Nat.reduceMul, Nat.reduceLeDiff, Nat.reduceEqDiff, Nat.reduceBEq, Nat.reduceBNe, Int.reduceLT, Int.reduceLE, Int.reduceAdd, Int.reduceSub, Int.reduceMul, Int.reduceNeg, Int.reduceNe, Int.reduceBEq, Int.reduceBNe, Int.reduceToNat, c1, hia, hf, e1, h1, Res.bind, cells_Z, isCell_Z, low_Z, stripC_Z, isTup_Z, strip_Z]
theorem kintEach {z : Bool} {one : Int → List UInt8 → KR} {f : PV} {l : List Int} {most : Nat} (hf : strip f = f) (hm : most ≤ 1000000) (hl : l.length < 2 ^ 62) (hone : ∀ (H : Heap) (L : List Box) (acc : List UInt8) (v : Int), v ∈ l → c < List.length H → runK c (callV P C f [.int .i64 v]) (St H c (pB acc) L) = outK c H L pB encU (one v acc)) (hc : c < List.length H) :
    runK c (C k_entry_each_int [.ptr c 0, LZ z 1 (l.map encI), .int .i64 most, f]) (St H c (pB acc) L) = outK c H L pB encU (kEach most one l acc) := liftK (fun H hc => by
  have hu := fun L acc h0 h1 => uK (c := c) (H := H) (L := L) (acc := acc) (n := (l.length : Int)) h0 h1 hc
  rw [entry_each_int_eq]
  unfold kEach
  by_cases h : most < l.length
  · have c1 : (most : Int) < l.length := by omega
    simp (contextual := true) (dsimp := false) (disch := omega) only [↓kDown, kUp, ↓goDown, goUp, List.length_cons, List.length_nil, List.map_cons, List.map_nil, List.take_succ_cons, List.take_zero, List.drop_succ_cons, List.drop_zero, List.drop_nil, List.take_nil, List.cons_append, List.nil_append, List.append_nil, List.set_cons_zero, List.set_cons_succ, List.all_cons, List.all_nil, ↓reduceIte, reduceCtorEq, ge_iff_le, gt_iff_lt, eq_self_iff_true, beq_self_eq_true, beq_iff_eq, bne_iff_ne, ne_eq, ite_not, Int.reduceEq, Option.getD_some, Option.getD_none, ite_self, Nat.reduceAdd, Nat.reduceSub, Nat.reduceMul, Nat.reduceLeDiff, Nat.reduceEqDiff, Nat.reduceBEq, Nat.reduceBNe, Int.reduceLT, Int.reduceLE, Int.reduceAdd, Int.reduceSub, Int.reduceMul, Int.reduceNeg, Int.reduceNe, Int.reduceBEq, Int.reduceBNe, Int.reduceToNat, if_pos h, strip_Z, ln_Z, List.length_map, c1]
  · have c1 : ¬ (most : Int) < l.length := by omega
    have hw : IntKind.u64.wrap (l.length : Int) = l.length := by rw [wu]; omega
    have hlp := fun acc => kintLoop (c := c) (z := z) hl hf hone l.length 0 acc [] H (by omega) hc
    rw [if_neg h]
    obtain ⟨L1, hlp⟩ := hlp (acc ++ putU l.length)
    have hlp : runK c (p_entry_each_int_1110 f (LZ z 1 (l.map encI)) (.int .i64 l.length) (.int .i64 0)) (St H c (pB (acc ++ putU l.length)) []) = outK c H L1 pB encU (kAll one l (acc ++ putU l.length)) := hlp
    unfold kPut at hu ⊢
    simp (contextual := true) (dsimp := false) (disch := omega) only [↓kDown, kUp, ↓goDown, goUp, List.length_cons, List.length_nil, List.map_cons, List.map_nil, List.take_succ_cons, List.take_zero, List.drop_succ_cons, List.drop_zero, List.drop_nil, List.take_nil, List.cons_append, List.nil_append, List.append_nil, List.set_cons_zero, List.set_cons_succ, List.all_cons, List.all_nil, ↓reduceIte, reduceCtorEq, ge_iff_le, gt_iff_lt, eq_self_iff_true, beq_self_eq_true, beq_iff_eq, bne_iff_ne, ne_eq, ite_not, Int.reduceEq, Option.getD_some, Option.getD_none, ite_self, Nat.reduceAdd, Nat.reduceSub, Nat.reduceMul, Nat.reduceLeDiff, Nat.reduceEqDiff, Nat.reduceBEq, Nat.reduceBNe, Int.reduceLT, Int.reduceLE, Int.reduceAdd, Int.reduceSub, Int.reduceMul, Int.reduceNeg, Int.reduceNe, Int.reduceBEq, Int.reduceBNe, Int.reduceToNat, strip_Z, ln_Z, List.length_map, c1, p_entry_each_int_1_eq, hw, hu, hlp, Int.toNat_natCast, hf, encU_is]) hc
end Go.Proofs.Ytofbbijagbpicaa.Pi.Q
namespace Go.Proofs.Ytofbbijagbpicaa.Pi.Q
open Go Go.Proofs.Ytofbbijagbpicaa.Pi
set_option linter.unusedVariables false
set_option linter.unusedSimpArgs false
set_option maxRecDepth 100000
attribute [local congr] ite_congr
variable {c : Nat} {H : Heap} {L : List Box} {acc : List UInt8}
def kVals (l : List VT) (acc : List UInt8) : KR := kEach 1000 kVal l acc
theorem valsK {z : Bool} {l : List VT} (hl : l.length < 2 ^ 62) (hc : c < List.length H) : runK c (C k_entry_pen_vals [.ptr c 0, LZ z 3 (l.map encV)]) (St H c (pB acc) L) = outK c H L pB encU (kVals l acc) := liftK (fun H hc => by
  have hk := fun L acc => kvalEach (c := c) (H := H) (L := L) (acc := acc) (z := z) (f := .fn k_entry_pen_val [.ptr c 0] []) (one := kVal) (most := 1000) rfl (by omega) hl (fun H L acc v _ hc => by rw [callV_fn]; exact valK hc) hc
  simp only [Int.cast_ofNat_Int] at hk
  rw [entry_pen_vals_eq]
  unfold kVals
  simp (contextual := true) (dsimp := false) (disch := omega) only [↓kDown, kUp, ↓goDown, goUp, List.length_cons, List.length_nil, List.map_cons, List.map_nil, List.take_succ_cons, List.take_zero, List.drop_succ_cons, List.drop_zero, List.drop_nil, List.take_nil, List.cons_append, List.nil_append, List.append_nil, List.set_cons_zero, List.set_cons_succ, List.all_cons, List.all_nil, ↓reduceIte, reduceCtorEq, ge_iff_le, gt_iff_lt, eq_self_iff_true, beq_self_eq_true, beq_iff_eq, bne_iff_ne, ne_eq, ite_not, Int.reduceEq, Option.getD_some, Option.getD_none, ite_self, Nat.reduceAdd, Nat.reduceSub, Nat.reduceMul, Nat.reduceLeDiff, Nat.reduceEqDiff, Nat.reduceBEq, Nat.reduceBNe, Int.reduceLT, Int.reduceLE, Int.reduceAdd, Int.reduceSub, Int.reduceMul, Int.reduceNeg, Int.reduceNe, Int.reduceBEq, Int.reduceBNe, Int.reduceToNat, strip_Z, run_mf, hk, encU_is]) hc
def kComp (v : CT) (acc : List UInt8) : KR :=
  (kMust (v.kind == 1 || ((v.ps.length : Int) + v.rs.length == 0)) acc).bind fun _ acc =>
  if v.kind = 1 then (kMust ((v.fs.length : Int) == 0) acc).bind fun _ acc => (kPut [96] acc).bind fun _ acc => (kVals v.ps acc).bind fun _ acc => kVals v.rs acc
  else if v.kind = 2 then (kPut [95] acc).bind fun _ acc => kEach 10000 kField v.fs acc
  else if v.kind = 3 then match v.fs with
    | [f] => (kPut [94] acc).bind fun _ acc => kField f acc
    | _ => .err y_entry_fault [0, 4]
  else .err y_entry_fault [0, 4]
theorem bP_true {a b : Bool} : kMust (true || b) acc = .ok () acc := rfl
theorem compK {v : CG} (hv : v.plain.fit) (hc : c < List.length H) : runK c (C k_entry_pen_comp [.ptr c 0, .agg [.int .i64 v.kind, LZ v.ps.z 3 (v.ps.l.map encV), LZ v.rs.z 3 (v.rs.l.map encV), LZ v.fs.z 4 (v.fs.l.map encF)]]) (St H c (pB acc) L) = outK c H L pB encU (kComp v.plain acc) := liftK (fun H hc => by
  obtain ⟨a1, a2, a3⟩ := hv
  simp only [CG.plain] at a1 a2 a3
  have h96 := fun L acc => byteK (c := c) (H := H) (L := L) (acc := acc) (n := 96) (by omega) (by omega) hc
  have h95 := fun L acc => byteK (c := c) (H := H) (L := L) (acc := acc) (n := 95) (by omega) (by omega) hc
  have h94 := fun L acc => byteK (c := c) (H := H) (L := L) (acc := acc) (n := 94) (by omega) (by omega) hc
  have hps := fun L acc => valsK (c := c) (H := H) (L := L) (acc := acc) (z := v.ps.z) (l := v.ps.l) (by omega) hc
  have hrs := fun L acc => valsK (c := c) (H := H) (L := L) (acc := acc) (z := v.rs.z) (l := v.rs.l) (by omega) hc
  have hfs := fun L acc => kfieldEach (c := c) (H := H) (L := L) (acc := acc) (z := v.fs.z) (l := v.fs.l) (f := .fn k_entry_pen_field [.ptr c 0] []) (one := kField) (most := 10000) rfl (by omega) (by omega) (fun H L acc v _ hc => by rw [callV_fn]; exact fieldK hc) hc
  simp only [Int.cast_ofNat_Int] at hfs
  have hf1 := fun L acc (f : FT) => fieldK (c := c) (H := H) (L := L) (acc := acc) (v := f) hc
  rw [entry_pen_comp_eq]
  unfold kComp
  simp only [CG.plain]
  by_cases h1 : v.kind = 1
  · simp (contextual := true) (dsimp := false) (disch := omega) only [↓kDown, kUp, ↓goDown, goUp, List.length_cons, List.length_nil, List.map_cons, List.map_nil, List.take_succ_cons, List.take_zero, List.drop_succ_cons, List.drop_zero, List.drop_nil, List.take_nil, List.cons_append, List.nil_append, List.append_nil, List.set_cons_zero, List.set_cons_succ, List.all_cons, List.all_nil, ↓reduceIte, reduceCtorEq, ge_iff_le, gt_iff_lt, eq_self_iff_true, beq_self_eq_true, beq_iff_eq, bne_iff_ne, ne_eq, ite_not, Int.reduceEq, Option.getD_some, Option.getD_none, ite_self, Nat.reduceAdd, Nat.reduceSub, Nat.reduceMul, Nat.reduceLeDiff, Nat.reduceEqDiff, Nat.reduceBEq, Nat.reduceBNe, Int.reduceLT, Int.reduceLE, Int.reduceAdd, Int.reduceSub, Int.reduceMul, Int.reduceNeg, Int.reduceNe, Int.reduceBEq, Int.reduceBNe, Int.reduceToNat, h1, ln_Z, List.length_map, mustK, kMust, bP_true, h96, hps, hrs, encU_is, cells_Z, isCell_Z, low_Z, stripC_Z, isTup_Z, strip_Z] <;> rfl
  · have e1 : (v.kind == 1) = false := beq_false_of_ne h1
    by_cases h2 : v.kind = 2
    · have c2 : (2 : Int) ≠ 1 := by omega
      simp (contextual := true) (dsimp := false) (disch := omega) only [↓kDown, kUp, ↓goDown, goUp, List.length_cons, List.length_nil, List.map_cons, List.map_nil, List.take_succ_cons, List.take_zero, List.drop_succ_cons, List.drop_zero, List.drop_nil, List.take_nil, List.cons_append, List.nil_append, List.append_nil, List.set_cons_zero, List.set_cons_succ, List.all_cons, List.all_nil, ↓reduceIte, reduceCtorEq, ge_iff_le, gt_iff_lt, eq_self_iff_true, beq_self_eq_true, beq_iff_eq, bne_iff_ne, ne_eq, ite_not, Int.reduceEq, Option.getD_some, Option.getD_none, ite_self, Nat.reduceAdd, Nat.reduceSub, Nat.reduceMul, Nat.reduceLeDiff, Nat.reduceEqDiff, Nat.reduceBEq, Nat.reduceBNe, Int.reduceLT, Int.reduceLE, Int.reduceAdd, Int.reduceSub, Int.reduceMul, Int.reduceNeg, Int.reduceNe, Int.reduceBEq, Int.reduceBNe, Int.reduceToNat, h2, c2, Bool.false_or, run_mf, ln_Z, List.length_map, mustK, kMust, bP_true, h95, hfs, encU_is, cells_Z, isCell_Z, low_Z, stripC_Z, isTup_Z, strip_Z] <;> rfl
    · by_cases h3 : v.kind = 3
      · have hia : ∀ (f : FT) K, run (iaS 4 (LZ v.fs.z 4 [encF f]) (.int .i64 0)) K = some (.ok (.elem [.int .i64 f.ty.num, .bool f.ty.nul, .int .i64 f.ty.heap, .bool f.mu]) K) := fun f K => rfl
        have hln : (((1 : Nat) : Int) = 1) = True := eq_true rfl
        have e2 : (3 : Int) ≠ 1 := by omega
        have e3 : (3 : Int) ≠ 2 := by omega
        match hv : v.fs.l with
        | [] =>
          have e5 : ((0 : Nat) : Int) ≠ 1 := by decide
          simp (contextual := true) (dsimp := false) (disch := omega) only [↓kDown, kUp, ↓goDown, goUp, List.length_cons, List.length_nil, List.map_cons, List.map_nil, List.take_succ_cons, List.take_zero, List.drop_succ_cons, List.drop_zero, List.drop_nil, List.take_nil, List.cons_append, List.nil_append, List.append_nil, List.set_cons_zero, List.set_cons_succ, List.all_cons, List.all_nil, ↓reduceIte, reduceCtorEq, ge_iff_le, gt_iff_lt, eq_self_iff_true, beq_self_eq_true, beq_iff_eq, bne_iff_ne, ne_eq, ite_not, Int.reduceEq, Option.getD_some, Option.getD_none, ite_self, Nat.reduceAdd, Nat.reduceSub, Nat.reduceMul, Nat.reduceLeDiff, Nat.reduceEqDiff, Nat.reduceBEq, Nat.reduceBNe, Int.reduceLT, Int.reduceLE, Int.reduceAdd, Int.reduceSub, Int.reduceMul, Int.reduceNeg, Int.reduceNe, Int.reduceBEq, Int.reduceBNe, Int.reduceToNat, h3, e2, e3, e5, Bool.false_or, ln_Z, hv, List.length_map, mustK, kMust, bP_true, encU_is, cells_Z, isCell_Z, low_Z, stripC_Z, isTup_Z, strip_Z] <;> rfl
        | [f] => simp (contextual := true) (dsimp := false) (disch := omega) only [↓kDown, kUp, ↓goDown, goUp, List.length_cons, List.length_nil, List.map_cons, List.map_nil, List.take_succ_cons, List.take_zero, List.drop_succ_cons, List.drop_zero, List.drop_nil, List.take_nil, List.cons_append, List.nil_append, List.append_nil, List.set_cons_zero, List.set_cons_succ, List.all_cons, List.all_nil, ↓reduceIte, reduceCtorEq, ge_iff_le, gt_iff_lt, eq_self_iff_true, beq_self_eq_true, beq_iff_eq, bne_iff_ne, ne_eq, ite_not, Int.reduceEq, Option.getD_some, Option.getD_none, ite_self, Nat.reduceAdd, Nat.reduceSub, Nat.reduceMul, Nat.reduceLeDiff, Nat.reduceEqDiff, Nat.reduceBEq, Nat.reduceBNe, Int.reduceLT, Int.reduceLE, Int.reduceAdd, Int.reduceSub, Int.reduceMul, Int.reduceNeg, Int.reduceNe, Int.reduceBEq, Int.reduceBNe, Int.reduceToNat, h3, e2, e3, Bool.false_or, ln_Z, hln, hia, hv, List.length_map, mustK, kMust, bP_true, h94, hf1, encU_is, cells_Z, isCell_Z, low_Z, stripC_Z, isTup_Z, strip_Z] <;> rfl
        | f :: g :: r =>
          have e4 : ¬ ((r.length + 1 + 1 : Nat) : Int) = 1 := by omega
          simp (contextual := true) (dsimp := false) (disch := omega) only [↓kDown, kUp, ↓goDown, goUp, List.length_cons, List.length_nil, List.map_cons, List.map_nil, List.take_succ_cons, List.take_zero, List.drop_succ_cons, List.drop_zero, List.drop_nil, List.take_nil, List.cons_append, List.nil_append, List.append_nil, List.set_cons_zero, List.set_cons_succ, List.all_cons, List.all_nil, ↓reduceIte, reduceCtorEq, ge_iff_le, gt_iff_lt, eq_self_iff_true, beq_self_eq_true, beq_iff_eq, bne_iff_ne, ne_eq, ite_not, Int.reduceEq, Option.getD_some, Option.getD_none, ite_self, Nat.reduceAdd, Nat.reduceSub, Nat.reduceMul, Nat.reduceLeDiff, Nat.reduceEqDiff, Nat.reduceBEq, Nat.reduceBNe, Int.reduceLT, Int.reduceLE, Int.reduceAdd, Int.reduceSub, Int.reduceMul, Int.reduceNeg, Int.reduceNe, Int.reduceBEq, Int.reduceBNe, Int.reduceToNat, h3, e2, e3, e4, Bool.false_or, ln_Z, hv, List.length_map, mustK, kMust, bP_true, encU_is, cells_Z, isCell_Z, low_Z, stripC_Z, isTup_Z, strip_Z] <;> rfl
      · simp (contextual := true) (dsimp := false) (disch := omega) only [↓kDown, kUp, ↓goDown, goUp, List.length_cons, List.length_nil, List.map_cons, List.map_nil, List.take_succ_cons, List.take_zero, List.drop_succ_cons, List.drop_zero, List.drop_nil, List.take_nil, List.cons_append, List.nil_append, List.append_nil, List.set_cons_zero, List.set_cons_succ, List.all_cons, List.all_nil, ↓reduceIte, reduceCtorEq, ge_iff_le, gt_iff_lt, eq_self_iff_true, beq_self_eq_true, beq_iff_eq, bne_iff_ne, ne_eq, ite_not, Int.reduceEq, Option.getD_some, Option.getD_none, ite_self, Nat.reduceAdd, Nat.reduceSub, Nat.reduceMul, Nat.reduceLeDiff, Nat.reduceEqDiff, Nat.reduceBEq, Nat.reduceBNe, Int.reduceLT, Int.reduceLE, Int.reduceAdd, Int.reduceSub, Int.reduceMul, Int.reduceNeg, Int.reduceNe, Int.reduceBEq, Int.reduceBNe, Int.reduceToNat, h1, h2, h3, e1, Bool.false_or, ln_Z, List.length_map, mustK, kMust, bP_true, encU_is, cells_Z, isCell_Z, low_Z, stripC_Z, isTup_Z, strip_Z] <;> rfl) hc
def kSub (v : ST) (acc : List UInt8) : KR :=
  if v.fin = true ∧ (v.sup.length : Int) = 0 then kComp v.comp acc
  else (if v.fin = true then kPut [79] acc else kPut [80] acc).bind fun _ acc => (kEach 1000 kIndex v.sup acc).bind fun _ acc => kComp v.comp acc
theorem subK {v : SG} (hv : v.plain.fit) (hc : c < List.length H) : runK c (C k_entry_pen_sub [.ptr c 0, .agg [.bool v.fin, LZ v.sup.z 1 (v.sup.l.map encI), .int .i64 v.comp.kind, LZ v.comp.ps.z 3 (v.comp.ps.l.map encV), LZ v.comp.rs.z 3 (v.comp.rs.l.map encV), LZ v.comp.fs.z 4 (v.comp.fs.l.map encF)]]) (St H c (pB acc) L) = outK c H L pB encU (kSub v.plain acc) := liftK (fun H hc => by
  obtain ⟨fin, sup, comp⟩ := v
  obtain ⟨a1, a2⟩ := hv
  simp only [SG.plain] at a1 a2 ⊢
  have h79 := fun L acc => byteK (c := c) (H := H) (L := L) (acc := acc) (n := 79) (by omega) (by omega) hc
  have h80 := fun L acc => byteK (c := c) (H := H) (L := L) (acc := acc) (n := 80) (by omega) (by omega) hc
  have hk := fun L acc => kintEach (c := c) (H := H) (L := L) (acc := acc) (f := .fn k_entry_pen_index [.ptr c 0] []) (one := kIndex) (z := sup.z) (l := sup.l) (most := 1000) rfl (by omega) (by omega) (fun H L acc v _ hc => by rw [callV_fn]; exact indexK hc) hc
  simp only [Int.cast_ofNat_Int] at hk
  have hcm := fun L acc => compK (c := c) (H := H) (L := L) (acc := acc) a2 hc
  rw [entry_pen_sub_eq]
  unfold kSub
  cases fin <;> simp (contextual := true) (dsimp := false) (disch := omega) only [↓kDown, kUp, ↓goDown, goUp, List.length_cons, List.length_nil, List.map_cons, List.map_nil, List.take_succ_cons, List.take_zero, List.drop_succ_cons, List.drop_zero, List.drop_nil, List.take_nil, List.cons_append, List.nil_append, List.append_nil, List.set_cons_zero, List.set_cons_succ, List.all_cons, List.all_nil, ↓reduceIte, reduceCtorEq, ge_iff_le, gt_iff_lt, eq_self_iff_true, beq_self_eq_true, beq_iff_eq, bne_iff_ne, ne_eq, ite_not, Int.reduceEq, Option.getD_some, Option.getD_none, ite_self, Nat.reduceAdd, Nat.reduceSub, Nat.reduceMul, Nat.reduceLeDiff, Nat.reduceEqDiff, Nat.reduceBEq, Nat.reduceBNe, Int.reduceLT, Int.reduceLE, Int.reduceAdd, Int.reduceSub, Int.reduceMul, Int.reduceNeg, Int.reduceNe, Int.reduceBEq, Int.reduceBNe, Int.reduceToNat, ln_Z, List.length_map, h79, h80, run_mf, hk, hcm, p_entry_pen_sub_11_eq, encU_is, cells_Z, isCell_Z, low_Z, stripC_Z, isTup_Z, strip_Z] <;> rfl) hc
theorem ksubLoop {z : Bool} {one : SG → List UInt8 → KR} {f : PV} {l : List SG} (hl : l.length < 2 ^ 62) (hf : strip f = f) (hone : ∀ (H : Heap) (L : List Box) (acc : List UInt8) (v : SG), v ∈ l → c < List.length H → runK c (callV P C f [.agg [.bool v.fin, LZ v.sup.z 1 (v.sup.l.map encI), .int .i64 v.comp.kind, LZ v.comp.ps.z 3 (v.comp.ps.l.map encV), LZ v.comp.rs.z 3 (v.comp.rs.l.map encV), LZ v.comp.fs.z 4 (v.comp.fs.l.map encF)]]) (St H c (pB acc) L) = outK c H L pB encU (one v acc)) : ∀ (m i : Nat) (acc : List UInt8) (L : List Box) (H : Heap), i + m = l.length → c < List.length H →
    ∃ L', runK c (p_entry_each_api_SubType_1110 f (LZ z 6 (l.map encSG)) (.int .i64 l.length) (.int .i64 i)) (St H c (pB acc) L) = outK c H L' pB encU (kAll one (l.drop i) acc)
  | 0, i, acc, L, H, hi, hc => by
    have c1 : ¬ (i : Int) < l.length := by omega
    have e0 : l.drop i = [] := List.drop_eq_nil_of_le (by omega)
    refine ⟨L, ?_⟩
    rw [e0, p_entry_each_api_SubType_1110_eq]
    simp (contextual := true) (dsimp := false) (disch := omega) only [↓kDown, kUp, ↓goDown, goUp, List.length_cons, List.length_nil, List.map_cons, List.map_nil, List.take_succ_cons, List.take_zero, List.drop_succ_cons, List.drop_zero, List.drop_nil, List.take_nil, List.cons_append, List.nil_append, List.append_nil, List.set_cons_zero, List.set_cons_succ, List.all_cons, List.all_nil, ↓reduceIte, reduceCtorEq, ge_iff_le, gt_iff_lt, eq_self_iff_true, beq_self_eq_true, beq_iff_eq, bne_iff_ne, ne_eq, ite_not, Int.reduceEq, Option.getD_some, Option.getD_none, ite_self, Nat.reduceAdd, Nat.reduceSub, Nat.reduceMul, Nat.reduceLeDiff, Nat.reduceEqDiff, Nat.reduceBEq, Nat.reduceBNe, Int.reduceLT, Int.reduceLE, Int.reduceAdd, Int.reduceSub, Int.reduceMul, Int.reduceNeg, Int.reduceNe, Int.reduceBEq, Int.reduceBNe, Int.reduceToNat, c1, kAll, encU_is]
  | m + 1, i, acc, L, H, hi, hc => by
    have c1 : (i : Int) < l.length := by omega
    have hil : i < l.length := by omega
    have hg : (l.map encSG)[i]? = some (encSG l[i]) := by simp [hil]
    have hia : ∀ K, run (iaS 6 (LZ z 6 (l.map encSG)) (.int .i64 i)) K = some (.ok (.elem [.bool l[i].fin, LZ l[i].sup.z 1 (l[i].sup.l.map encI), .int .i64 l[i].comp.kind, LZ l[i].comp.ps.z 3 (l[i].comp.ps.l.map encV), LZ l[i].comp.rs.z 3 (l[i].comp.rs.l.map encV), LZ l[i].comp.fs.z 4 (l[i].comp.fs.l.map encF)]) K) := fun K => (ia_Z hg).trans rfl
    have hd : l.drop i = l[i] :: l.drop (i + 1) := List.drop_eq_getElem_cons hil
    have e1 : ((i : Int) + 1) = ((i + 1 : Nat) : Int) := rfl
    rw [hd, St_flat hc]
    have hc' : c < List.length (hadd H L) := by rw [len_add]; omega
    obtain ⟨K, hK⟩ : ∃ K, K = hadd H L := ⟨_, rfl⟩
    rw [← hK] at hc' ⊢
    have h1 := hone K [.cells [.bool l[i].fin, LZ l[i].sup.z 1 (l[i].sup.l.map encI), .int .i64 l[i].comp.kind, LZ l[i].comp.ps.z 3 (l[i].comp.ps.l.map encV), LZ l[i].comp.rs.z 3 (l[i].comp.rs.l.map encV), LZ l[i].comp.fs.z 4 (l[i].comp.fs.l.map encF)]] acc l[i] (List.getElem_mem hil) hc'
    simp only [kAll]
    cases hw : one l[i] acc with
    | ok u acc1 =>
      obtain ⟨L', ih⟩ := ksubLoop (z := z) hl hf hone m (i + 1) acc1 [.cells [.bool l[i].fin, LZ l[i].sup.z 1 (l[i].sup.l.map encI), .int .i64 l[i].comp.kind, LZ l[i].comp.ps.z 3 (l[i].comp.ps.l.map encV), LZ l[i].comp.rs.z 3 (l[i].comp.rs.l.map encV), LZ l[i].comp.fs.z 4 (l[i].comp.fs.l.map encF)]] K (by omega) hc'
      refine ⟨L ++ L', ?_⟩
      rw [← outK_out hK hc]
      rw [p_entry_each_api_SubType_1110_eq]
      rw [hw] at h1
      simp (contextual := true) (dsimp := false) (disch := omega) only [↓kDown, kUp, ↓goDown, goUp, List.length_cons, List.length_nil, List.map_cons, List.map_nil, List.take_succ_cons, List.take_zero, List.drop_succ_cons, List.drop_zero, List.drop_nil, List.take_nil, List.cons_append, List.nil_append, List.append_nil, List.set_cons_zero, List.set_cons_succ, List.all_cons, List.all_nil, ↓reduceIte, reduceCtorEq, ge_iff_le, gt_iff_lt, eq_self_iff_true, beq_self_eq_true, beq_iff_eq, bne_iff_ne, ne_eq, ite_not, Int.reduceEq, Option.getD_some, Option.getD_none, ite_self, Nat.reduceAdd, Nat.reduceSub, Nat.reduceMul, Nat.reduceLeDiff, Nat.reduceEqDiff, Nat.reduceBEq, Nat.reduceBNe, Int.reduceLT, Int.reduceLE, Int.reduceAdd, Int.reduceSub, Int.reduceMul, Int.reduceNeg, Int.reduceNe, Int.reduceBEq, Int.reduceBNe, Int.reduceToNat, c1, hia, hf, e1, h1, ih, Res.bind, cells_Z, isCell_Z, low_Z, stripC_Z, isTup_Z, strip_Z]
    | err t w =>
      refine ⟨L ++ [.cells [.bool l[i].fin, LZ l[i].sup.z 1 (l[i].sup.l.map encI), .int .i64 l[i].comp.kind, LZ l[i].comp.ps.z 3 (l[i].comp.ps.l.map encV), LZ l[i].comp.rs.z 3 (l[i].comp.rs.l.map encV), LZ l[i].comp.fs.z 4 (l[i].comp.fs.l.map encF)]], ?_⟩
      rw [← outK_out hK hc]
      rw [p_entry_each_api_SubType_1110_eq]
      rw [hw] at h1
      simp (contextual := true) (dsimp := false) (disch := omega) only [↓kDown, kUp, ↓goDown, goUp, List.length_cons, List.length_nil, List.map_cons, List.map_nil, List.take_succ_cons, List.take_zero, List.drop_succ_cons, List.drop_zero, List.drop_nil, List.take_nil, List.cons_append, List.nil_append, List.append_nil, List.set_cons_zero, List.set_cons_succ, List.all_cons, List.all_nil, ↓reduceIte, reduceCtorEq, ge_iff_le, gt_iff_lt, eq_self_iff_true, beq_self_eq_true, beq_iff_eq, bne_iff_ne, ne_eq, ite_not, Int.reduceEq, Option.getD_some, Option.getD_none, ite_self, Nat.reduceAdd, Nat.reduceSub, Nat.reduceMul, Nat.reduceLeDiff, Nat.reduceEqDiff, Nat.reduceBEq, Nat.reduceBNe, Int.reduceLT, Int.reduceLE, Int.reduceAdd, Int.reduceSub, Int.reduceMul, Int.reduceNeg, Int.reduceNe, Int.reduceBEq, Int.reduceBNe, Int.reduceToNat, c1, hia, hf, e1, h1, Res.bind, cells_Z, isCell_Z, low_Z, stripC_Z, isTup_Z, strip_Z]
    | no =>
      refine ⟨L, ?_⟩
      rw [p_entry_each_api_SubType_1110_eq]
      rw [hw] at h1
      simp (contextual := true) (dsimp := false) (disch := omega) only [↓kDown, kUp, ↓goDown, goUp, List.length_cons, List.length_nil, List.map_cons, List.map_nil, List.take_succ_cons, List.take_zero, List.drop_succ_cons, List.drop_zero, List.drop_nil, List.take_nil, List.cons_append, List.nil_append, List.append_nil, List.set_cons_zero, List.set_cons_succ, List.all_cons, List.all_nil, ↓reduceIte, reduceCtorEq, ge_iff_le, gt_iff_lt, eq_self_iff_true, beq_self_eq_true, beq_iff_eq, bne_iff_ne, ne_eq, ite_not, Int.reduceEq, Option.getD_some, Option.getD_none, ite_self, Nat.reduceAdd, Nat.reduceSub, Nat.reduceMul, Nat.reduceLeDiff, Nat.reduceEqDiff, Nat.reduceBEq, Nat.reduceBNe, Int.reduceLT, Int.reduceLE, Int.reduceAdd, Int.reduceSub, Int.reduceMul, Int.reduceNeg, Int.reduceNe, Int.reduceBEq, Int.reduceBNe, Int.reduceToNat, c1, hia, hf, e1, h1, Res.bind, cells_Z, isCell_Z, low_Z, stripC_Z, isTup_Z, strip_Z]
theorem ksubEach {z : Bool} {one : SG → List UInt8 → KR} {f : PV} {l : List SG} {most : Nat} (hf : strip f = f) (hm : most ≤ 1000000) (hl : l.length < 2 ^ 62) (hone : ∀ (H : Heap) (L : List Box) (acc : List UInt8) (v : SG), v ∈ l → c < List.length H → runK c (callV P C f [.agg [.bool v.fin, LZ v.sup.z 1 (v.sup.l.map encI), .int .i64 v.comp.kind, LZ v.comp.ps.z 3 (v.comp.ps.l.map encV), LZ v.comp.rs.z 3 (v.comp.rs.l.map encV), LZ v.comp.fs.z 4 (v.comp.fs.l.map encF)]]) (St H c (pB acc) L) = outK c H L pB encU (one v acc)) (hc : c < List.length H) :
    runK c (C k_entry_each_api_SubType [.ptr c 0, LZ z 6 (l.map encSG), .int .i64 most, f]) (St H c (pB acc) L) = outK c H L pB encU (kEach most one l acc) := liftK (fun H hc => by
  have hu := fun L acc h0 h1 => uK (c := c) (H := H) (L := L) (acc := acc) (n := (l.length : Int)) h0 h1 hc
  rw [entry_each_api_SubType_eq]
  unfold kEach
  by_cases h : most < l.length
  · have c1 : (most : Int) < l.length := by omega
    simp (contextual := true) (dsimp := false) (disch := omega) only [↓kDown, kUp, ↓goDown, goUp, List.length_cons, List.length_nil, List.map_cons, List.map_nil, List.take_succ_cons, List.take_zero, List.drop_succ_cons, List.drop_zero, List.drop_nil, List.take_nil, List.cons_append, List.nil_append, List.append_nil, List.set_cons_zero, List.set_cons_succ, List.all_cons, List.all_nil, ↓reduceIte, reduceCtorEq, ge_iff_le, gt_iff_lt, eq_self_iff_true, beq_self_eq_true, beq_iff_eq, bne_iff_ne, ne_eq, ite_not, Int.reduceEq, Option.getD_some, Option.getD_none, ite_self, Nat.reduceAdd, Nat.reduceSub, Nat.reduceMul, Nat.reduceLeDiff, Nat.reduceEqDiff, Nat.reduceBEq, Nat.reduceBNe, Int.reduceLT, Int.reduceLE, Int.reduceAdd, Int.reduceSub, Int.reduceMul, Int.reduceNeg, Int.reduceNe, Int.reduceBEq, Int.reduceBNe, Int.reduceToNat, if_pos h, strip_Z, ln_Z, List.length_map, c1]
  · have c1 : ¬ (most : Int) < l.length := by omega
    have hw : IntKind.u64.wrap (l.length : Int) = l.length := by rw [wu]; omega
    have hlp := fun acc => ksubLoop (c := c) (z := z) hl hf hone l.length 0 acc [] H (by omega) hc
    rw [if_neg h]
    obtain ⟨L1, hlp⟩ := hlp (acc ++ putU l.length)
    have hlp : runK c (p_entry_each_api_SubType_1110 f (LZ z 6 (l.map encSG)) (.int .i64 l.length) (.int .i64 0)) (St H c (pB (acc ++ putU l.length)) []) = outK c H L1 pB encU (kAll one l (acc ++ putU l.length)) := hlp
    unfold kPut at hu ⊢
    simp (contextual := true) (dsimp := false) (disch := omega) only [↓kDown, kUp, ↓goDown, goUp, List.length_cons, List.length_nil, List.map_cons, List.map_nil, List.take_succ_cons, List.take_zero, List.drop_succ_cons, List.drop_zero, List.drop_nil, List.take_nil, List.cons_append, List.nil_append, List.append_nil, List.set_cons_zero, List.set_cons_succ, List.all_cons, List.all_nil, ↓reduceIte, reduceCtorEq, ge_iff_le, gt_iff_lt, eq_self_iff_true, beq_self_eq_true, beq_iff_eq, bne_iff_ne, ne_eq, ite_not, Int.reduceEq, Option.getD_some, Option.getD_none, ite_self, Nat.reduceAdd, Nat.reduceSub, Nat.reduceMul, Nat.reduceLeDiff, Nat.reduceEqDiff, Nat.reduceBEq, Nat.reduceBNe, Int.reduceLT, Int.reduceLE, Int.reduceAdd, Int.reduceSub, Int.reduceMul, Int.reduceNeg, Int.reduceNe, Int.reduceBEq, Int.reduceBNe, Int.reduceToNat, strip_Z, ln_Z, List.length_map, c1, p_entry_each_api_SubType_1_eq, hw, hu, hlp, Int.toNat_natCast, hf, encU_is]) hc
end Go.Proofs.Ytofbbijagbpicaa.Pi.Q
namespace Go.Proofs.Ytofbbijagbpicaa.Pi.Q
open Go Go.Proofs.Ytofbbijagbpicaa.Pi
set_option linter.unusedVariables false
set_option linter.unusedSimpArgs false
set_option maxRecDepth 100000
attribute [local congr] ite_congr
variable {c : Nat} {H : Heap} {L : List Box} {acc : List UInt8}
theorem unkill {K H' : Heap} (hc : c < List.length K) (h : hset H' c .dead = St K c .dead []) : ∃ b, H' = St K c b [] := by
  have hl : List.length H' = List.length K := by
    have := congrArg List.length h
    rw [len_set, len_St] at this
    simpa using this
  have hc' : c < List.length H' := by omega
  refine ⟨H'[c], ?_⟩
  have h2 := congrArg (fun K => hset K c (H'[c])) h
  simp only [set_set, set_St hc] at h2
  rw [← h2]
  unfold hset
  exact (List.set_getElem_self hc').symm
theorem run_of_ok {m : M PV} {K K' : Heap} {v : PV} (h : runK c m K = some (.ok v K')) : run m K = some (.ok v K') := by
  unfold runK killR at h
  cases hr : run m K with
  | none => rw [hr] at h; cases h
  | some q => cases q with
    | ok a b => rw [hr] at h; exact h
    | pan a b => rw [hr] at h; simp at h
theorem run_of_pan {m : M PV} {K K' : Heap} {v : PV} (hc : c < List.length K') (h : runK c m K = some (.pan v (St K' c .dead []))) : ∃ b, run m K = some (.pan v (St K' c b [])) := by
  unfold runK killR at h
  cases hr : run m K with
  | none => rw [hr] at h; cases h
  | some q => cases q with
    | ok a b => rw [hr] at h; simp at h
    | pan a b =>
      rw [hr] at h
      simp only [Option.some.injEq, Out.pan.injEq] at h
      obtain ⟨h1, h2⟩ := h
      obtain ⟨b, rfl⟩ := unkill hc h2
      exact ⟨b, by rw [h1]⟩
theorem stripC_B {a : List UInt8} : stripC (accB a) = LZ true 1 (bytes a) := stripC_acc.trans shut_LZ
theorem fd1_is {x y : PV} : fd 1 none (.agg [x, y]) = M.pure (stripC y) := rfl
def outW (r : KR) (H : Heap) : Option (Out PV) :=
  match r with
  | .ok _ acc => some (.ok (.tup [LZ true 1 (bytes acc), .int .i64 0]) H)
  | .err t [_, w] => if t = y_entry_fault then some (.ok (.tup [.slice false true 0 [], .int .i64 w]) H) else none
  | _ => none
theorem write_is {f : PV} {r : KR} (hf : strip f = f) (hr : ∀ t l, r = .err t l → t = y_entry_fault ∧ ∃ p w, l = [p, w]) (hno : r ≠ .no)
    (h : ∀ (L : List Box) (c : Nat), List.length H ≤ c → c < List.length (hadd H L) → runK c (callV P C f [.ptr c 0]) (St (hadd H L) c (pB []) []) = outK c (hadd H L) [] pB encU r) :
    run (C k_entry_write [f]) H = outW r H := by
  have e0 : ∀ (b b2 b3 : Box), St (hadd H [b2, b3, .dead]) (List.length H + 2) b [] = hadd H [b2, b3, b] := fun b b2 b3 => by
    unfold St hadd hset
    rw [List.append_nil, List.set_append_right _ _ (by omega)]
    simp
  have hh := h [.cells [.slice false true 0 []], .cells [.int .i64 0], .dead] (List.length H + 2) (by omega) (by rw [len_add]; simp)
  rw [e0] at hh
  have hp : pB [] = .cells [.slice false true 0 []] := rfl
  rw [entry_write_eq]
  cases r with
  | ok u acc =>
    simp only [outK, elimK, e0] at hh
    have hh := run_of_ok hh
    rw [hp] at hh
    simp (contextual := true) (dsimp := false) (disch := omega) only [↓goDown, goUp, List.length_cons, List.length_nil, List.map_cons, List.map_nil, List.take_succ_cons, List.take_zero, List.drop_succ_cons, List.drop_zero, List.drop_nil, List.take_nil, List.cons_append, List.nil_append, List.append_nil, List.set_cons_zero, List.set_cons_succ, List.all_cons, List.all_nil, ↓reduceIte, reduceCtorEq, ge_iff_le, gt_iff_lt, eq_self_iff_true, beq_self_eq_true, beq_iff_eq, bne_iff_ne, ne_eq, ite_not, Int.reduceEq, Option.getD_some, Option.getD_none, ite_self, Nat.reduceAdd, Nat.reduceSub, Nat.reduceMul, Nat.reduceLeDiff, Nat.reduceEqDiff, Nat.reduceBEq, Nat.reduceBNe, Int.reduceLT, Int.reduceLE, Int.reduceAdd, Int.reduceSub, Int.reduceMul, Int.reduceNeg, Int.reduceNe, Int.reduceBEq, Int.reduceBNe, Int.reduceToNat, hf, hh, encU_is, isCell_B, cells_B, low_B, isTup_B, entry_write_1_deq, run_mf, run_ta, bi_if, bi_ifn, cutL, ne_len0, Nat.reduceBeqDiff, outW, stripC_B, isTup_Z, low_Z, stripC_Z, cells_Z, isCell_Z]
  | err t l =>
    obtain ⟨rfl, p, w, rfl⟩ := hr _ _ rfl
    simp only [outK, elimK] at hh
    obtain ⟨b, hh⟩ := run_of_pan (by rw [len_add]; simp) hh
    rw [e0, hp] at hh
    simp (contextual := true) (dsimp := false) (disch := omega) only [↓goDown, goUp, List.length_cons, List.length_nil, List.map_cons, List.map_nil, List.take_succ_cons, List.take_zero, List.drop_succ_cons, List.drop_zero, List.drop_nil, List.take_nil, List.cons_append, List.nil_append, List.append_nil, List.set_cons_zero, List.set_cons_succ, List.all_cons, List.all_nil, ↓reduceIte, reduceCtorEq, ge_iff_le, gt_iff_lt, eq_self_iff_true, beq_self_eq_true, beq_iff_eq, bne_iff_ne, ne_eq, ite_not, Int.reduceEq, Option.getD_some, Option.getD_none, ite_self, Nat.reduceAdd, Nat.reduceSub, Nat.reduceMul, Nat.reduceLeDiff, Nat.reduceEqDiff, Nat.reduceBEq, Nat.reduceBNe, Int.reduceLT, Int.reduceLE, Int.reduceAdd, Int.reduceSub, Int.reduceMul, Int.reduceNeg, Int.reduceNe, Int.reduceBEq, Int.reduceBNe, Int.reduceToNat, hf, hh, fltP_is, entry_write_1_req, run_mf, run_ta, bi_if, bi_ifn, cutL, ne_len0, Nat.reduceBeqDiff, outW, List.map_cons, List.map_nil, fd1_is]
  | no => exact absurd rfl hno
def kRec (v : RT) (acc : List UInt8) : KR :=
  match v.types with
  | [t] => kSub t acc
  | l => (kPut [78] acc).bind fun _ acc => kEach 10000 kSub l acc
theorem kAll_map {α β : Type} {k : β → List UInt8 → KR} {f : α → β} : ∀ (l : List α) (acc : List UInt8), kAll (fun a => k (f a)) l acc = kAll k (l.map f) acc
  | [], acc => rfl
  | a :: l, acc => by
    simp only [kAll, List.map_cons]
    congr 1
    funext _ acc
    exact kAll_map l acc
theorem kEach_map {α β : Type} {most : Nat} {k : β → List UInt8 → KR} {f : α → β} {l : List α} {acc : List UInt8} : kEach most (fun a => k (f a)) l acc = kEach most k (l.map f) acc := by
  unfold kEach
  rw [List.length_map]
  congr 2
  funext _ acc
  exact kAll_map l acc
def RG.fit (v : RG) : Prop := v.types.l.length < 2 ^ 62 ∧ ∀ t ∈ v.types.l, t.plain.fit
theorem recK {v : RG} {j : Nat} (hv : v.fit) (hj : hget H j = some (.cells [LZ v.types.z 6 (v.types.l.map encSG), .bool v.exp])) (hjc : j < c) (hc : c < List.length H) : runK c (C k_entry_PutRecType_1 [.ptr c 0, .ptr j 0]) (St H c (pB acc) []) = outK c H [] pB encU (kRec v.plain acc) := by
  obtain ⟨a1, a2⟩ := hv
  have hg : ∀ a L, hget (St H c a L) j = some (.cells [LZ v.types.z 6 (v.types.l.map encSG), .bool v.exp]) := fun a L => by
    unfold St
    rw [get_old1 (by omega), get_set_ne (by omega)]
    exact hj
  have h78 := fun L acc => byteK (c := c) (H := H) (L := L) (acc := acc) (n := 78) (by omega) (by omega) hc
  have hk := fun L acc => ksubEach (c := c) (H := H) (L := L) (acc := acc) (f := .fn k_entry_pen_sub [.ptr c 0] []) (one := fun v => kSub v.plain) (z := v.types.z) (l := v.types.l) (most := 10000) rfl (by omega) (by omega) (fun H L acc t ht hc => by rw [callV_fn]; exact subK (a2 t ht) hc) hc
  simp only [Int.cast_ofNat_Int, kEach_map] at hk
  rw [entry_PutRecType_1_eq]
  unfold kRec
  simp only [RG.plain]
  match hv : v.types.l with
  | [] =>
    rw [hv] at hk hg
    simp only [List.map_cons, List.map_nil] at hk
    have e5 : ¬ ((0 : Nat) : Int) = 1 := by decide
    simp (contextual := true) (dsimp := false) (disch := omega) only [↓kDown, kUp, ↓goDown, goUp, List.length_cons, List.length_nil, List.map_cons, List.map_nil, List.take_succ_cons, List.take_zero, List.drop_succ_cons, List.drop_zero, List.drop_nil, List.take_nil, List.cons_append, List.nil_append, List.append_nil, List.set_cons_zero, List.set_cons_succ, List.all_cons, List.all_nil, ↓reduceIte, reduceCtorEq, ge_iff_le, gt_iff_lt, eq_self_iff_true, beq_self_eq_true, beq_iff_eq, bne_iff_ne, ne_eq, ite_not, Int.reduceEq, Option.getD_some, Option.getD_none, ite_self, Nat.reduceAdd, Nat.reduceSub, Nat.reduceMul, Nat.reduceLeDiff, Nat.reduceEqDiff, Nat.reduceBEq, Nat.reduceBNe, Int.reduceLT, Int.reduceLE, Int.reduceAdd, Int.reduceSub, Int.reduceMul, Int.reduceNeg, Int.reduceNe, Int.reduceBEq, Int.reduceBNe, Int.reduceToNat, hg, ln_Z, List.length_map, e5, h78, run_mf, hk, encU_is, cells_Z, isCell_Z, low_Z, stripC_Z, isTup_Z, strip_Z] <;> rfl
  | [t] =>
    rw [hv] at hg
    have ht : t ∈ v.types.l := by rw [hv]; simp
    have hia : ∀ K, run (iaS 6 (LZ v.types.z 6 [encSG t]) (.int .i64 0)) K = some (.ok (.elem [.bool t.fin, LZ t.sup.z 1 (t.sup.l.map encI), .int .i64 t.comp.kind, LZ t.comp.ps.z 3 (t.comp.ps.l.map encV), LZ t.comp.rs.z 3 (t.comp.rs.l.map encV), LZ t.comp.fs.z 4 (t.comp.fs.l.map encF)]) K) := fun K => rfl
    have e5 : (((1 : Nat) : Int) = 1) = True := eq_true rfl
    have hs := fun L acc => subK (c := c) (H := H) (L := L) (acc := acc) (a2 t ht) hc
    simp (contextual := true) (dsimp := false) (disch := omega) only [↓kDown, kUp, ↓goDown, goUp, List.length_cons, List.length_nil, List.map_cons, List.map_nil, List.take_succ_cons, List.take_zero, List.drop_succ_cons, List.drop_zero, List.drop_nil, List.take_nil, List.cons_append, List.nil_append, List.append_nil, List.set_cons_zero, List.set_cons_succ, List.all_cons, List.all_nil, ↓reduceIte, reduceCtorEq, ge_iff_le, gt_iff_lt, eq_self_iff_true, beq_self_eq_true, beq_iff_eq, bne_iff_ne, ne_eq, ite_not, Int.reduceEq, Option.getD_some, Option.getD_none, ite_self, Nat.reduceAdd, Nat.reduceSub, Nat.reduceMul, Nat.reduceLeDiff, Nat.reduceEqDiff, Nat.reduceBEq, Nat.reduceBNe, Int.reduceLT, Int.reduceLE, Int.reduceAdd, Int.reduceSub, Int.reduceMul, Int.reduceNeg, Int.reduceNe, Int.reduceBEq, Int.reduceBNe, Int.reduceToNat, hg, ln_Z, List.length_map, e5, hia, hs, encU_is, cells_Z, isCell_Z, low_Z, stripC_Z, isTup_Z, strip_Z] <;> rfl
  | t :: u :: r =>
    rw [hv] at hk hg
    simp only [List.map_cons, List.map_nil] at hk
    have e5 : ¬ ((r.length + 1 + 1 : Nat) : Int) = 1 := by omega
    simp (contextual := true) (dsimp := false) (disch := omega) only [↓kDown, kUp, ↓goDown, goUp, List.length_cons, List.length_nil, List.map_cons, List.map_nil, List.take_succ_cons, List.take_zero, List.drop_succ_cons, List.drop_zero, List.drop_nil, List.take_nil, List.cons_append, List.nil_append, List.append_nil, List.set_cons_zero, List.set_cons_succ, List.all_cons, List.all_nil, ↓reduceIte, reduceCtorEq, ge_iff_le, gt_iff_lt, eq_self_iff_true, beq_self_eq_true, beq_iff_eq, bne_iff_ne, ne_eq, ite_not, Int.reduceEq, Option.getD_some, Option.getD_none, ite_self, Nat.reduceAdd, Nat.reduceSub, Nat.reduceMul, Nat.reduceLeDiff, Nat.reduceEqDiff, Nat.reduceBEq, Nat.reduceBNe, Int.reduceLT, Int.reduceLE, Int.reduceAdd, Int.reduceSub, Int.reduceMul, Int.reduceNeg, Int.reduceNe, Int.reduceBEq, Int.reduceBNe, Int.reduceToNat, hg, ln_Z, List.length_map, e5, h78, run_mf, hk, encU_is, cells_Z, isCell_Z, low_Z, stripC_Z, isTup_Z, strip_Z] <;> rfl
def OkR (r : KR) : Prop := (∀ t l, r = .err t l → t = y_entry_fault ∧ ∃ p w, l = [p, w]) ∧ r ≠ .no
theorem put_1 {f1 : FuncId} {bx1 : Box} {r : KR} (hr : OkR r) (h : ∀ (K : Heap) (j c : Nat), hget K j = some bx1 → j < c → c < List.length K → runK c (C f1 [.ptr c 0, .ptr j 0]) (St K c (pB []) []) = outK c K [] pB encU r) :
    run (C k_entry_write [.fn f1 [] [.ptr (List.length H) 0]]) (hadd H [bx1]) = outW r (hadd H [bx1]) :=
  write_is (H := hadd H [bx1]) (f := .fn f1 [] [.ptr (List.length H) 0]) rfl hr.1 hr.2 (fun L c h1 h2 => by
    rw [callV_fn]
    refine h _ _ _ ?_ ?_ h2
    · rw [add_add, get_loc0]; rfl
    · rw [len_add] at h1; simp at h1; omega)
theorem put_rec {v : RG} (hv : v.fit) (hr : OkR (kRec v.plain [])) : run (C k_entry_PutRecType [encRG v]) H = outW (kRec v.plain []) H := by
  have hw := put_1 (H := H) (f1 := k_entry_PutRecType_1) hr (fun K j c hj h1 h2 => recK hv hj h1 h2)
  rw [entry_PutRecType_eq]
  unfold encRG
  cases hk : kRec v.plain [] with
  | ok u acc =>
    rw [hk] at hw
    simp only [outW] at hw ⊢
    simp (contextual := true) (dsimp := false) (disch := omega) only [↓goDown, goUp, List.length_cons, List.length_nil, List.map_cons, List.map_nil, List.take_succ_cons, List.take_zero, List.drop_succ_cons, List.drop_zero, List.drop_nil, List.take_nil, List.cons_append, List.nil_append, List.append_nil, List.set_cons_zero, List.set_cons_succ, List.all_cons, List.all_nil, ↓reduceIte, reduceCtorEq, ge_iff_le, gt_iff_lt, eq_self_iff_true, beq_self_eq_true, beq_iff_eq, bne_iff_ne, ne_eq, ite_not, Int.reduceEq, Option.getD_some, Option.getD_none, ite_self, Nat.reduceAdd, Nat.reduceSub, Nat.reduceMul, Nat.reduceLeDiff, Nat.reduceEqDiff, Nat.reduceBEq, Nat.reduceBNe, Int.reduceLT, Int.reduceLE, Int.reduceAdd, Int.reduceSub, Int.reduceMul, Int.reduceNeg, Int.reduceNe, Int.reduceBEq, Int.reduceBNe, Int.reduceToNat, run_mf, hw, cells_Z, isCell_Z, low_Z, stripC_Z, isTup_Z, strip_Z]
  | err t l =>
    obtain ⟨rfl, p, w, rfl⟩ := hr.1 _ _ hk
    rw [hk] at hw
    simp only [outW, if_true] at hw ⊢
    simp (contextual := true) (dsimp := false) (disch := omega) only [↓goDown, goUp, List.length_cons, List.length_nil, List.map_cons, List.map_nil, List.take_succ_cons, List.take_zero, List.drop_succ_cons, List.drop_zero, List.drop_nil, List.take_nil, List.cons_append, List.nil_append, List.append_nil, List.set_cons_zero, List.set_cons_succ, List.all_cons, List.all_nil, ↓reduceIte, reduceCtorEq, ge_iff_le, gt_iff_lt, eq_self_iff_true, beq_self_eq_true, beq_iff_eq, bne_iff_ne, ne_eq, ite_not, Int.reduceEq, Option.getD_some, Option.getD_none, ite_self, Nat.reduceAdd, Nat.reduceSub, Nat.reduceMul, Nat.reduceLeDiff, Nat.reduceEqDiff, Nat.reduceBEq, Nat.reduceBNe, Int.reduceLT, Int.reduceLE, Int.reduceAdd, Int.reduceSub, Int.reduceMul, Int.reduceNeg, Int.reduceNe, Int.reduceBEq, Int.reduceBNe, Int.reduceToNat, run_mf, hw, cells_Z, isCell_Z, low_Z, stripC_Z, isTup_Z, strip_Z]
  | no => exact absurd hk hr.2
end Go.Proofs.Ytofbbijagbpicaa.Pi.Q
namespace Go.Proofs.Ytofbbijagbpicaa.Pi.Q
open Go Go.Proofs.Ytofbbijagbpicaa.Pi
set_option linter.unusedVariables false
set_option linter.unusedSimpArgs false
set_option maxRecDepth 100000
attribute [local congr] ite_congr
variable {c : Nat} {H : Heap} {L : List Box} {acc : List UInt8}
def kU (n : Int) (acc : List UInt8) : KR := kPut (putU n.toNat) acc
theorem wf_u64 {n : Int} (h : (Lit.int .u64 n).wf = true) : 0 ≤ n ∧ n < 18446744073709551616 := by
  simp [Lit.wf, IntKind.min, IntKind.max, IntKind.bits, IntKind.signed] at h
  omega
theorem wf_i64 {n : Int} (h : (Lit.int .i64 n).wf = true) : -9223372036854775808 ≤ n ∧ n ≤ 9223372036854775807 := by
  simp [Lit.wf, IntKind.min, IntKind.max, IntKind.bits, IntKind.signed] at h
  omega
def kLimits (v : LT) (acc : List UInt8) : KR :=
  (kPut [if v.has then (if v.wide then 5 else 1) else (if v.wide then 4 else 0)] acc).bind fun _ acc =>
  (kMust (v.wide || decide (v.min < 4294967296)) acc).bind fun _ acc =>
  (kU v.min acc).bind fun _ acc =>
  (if v.has = true ∨ v.max = 0 then kMust (v.wide || decide (v.max < 4294967296)) acc else .err y_entry_fault [0, 4]).bind fun _ acc =>
  if v.has = true then kU v.max acc else .ok () acc
theorem limitsK {v : LT} (h1 : 0 ≤ v.min ∧ v.min < 18446744073709551616) (h2 : 0 ≤ v.max ∧ v.max < 18446744073709551616) (hc : c < List.length H) : runK c (C k_entry_pen_limits [.ptr c 0, .agg [.bool v.wide, .int .u64 v.min, .int .u64 v.max, .bool v.has]]) (St H c (pB acc) L) = outK c H L pB encU (kLimits v acc) := liftK (fun H hc => by
  obtain ⟨wide, min, max, has⟩ := v
  simp only at h1 h2
  have hb := fun n h0 h1 L acc => byteK (c := c) (H := H) (L := L) (acc := acc) (n := n) h0 h1 hc
  have hu1 := fun L acc => uK (c := c) (H := H) (L := L) (acc := acc) (n := min) h1.1 h1.2 hc
  have hu2 := fun L acc => uK (c := c) (H := H) (L := L) (acc := acc) (n := max) h2.1 h2.2 hc
  rw [entry_pen_limits_eq]
  unfold kLimits kU
  cases wide <;> cases has <;>
    simp (contextual := true) (dsimp := false) (disch := omega) only [↓kDown, kUp, ↓goDown, goUp, List.length_cons, List.length_nil, List.map_cons, List.map_nil, List.take_succ_cons, List.take_zero, List.drop_succ_cons, List.drop_zero, List.drop_nil, List.take_nil, List.cons_append, List.nil_append, List.append_nil, List.set_cons_zero, List.set_cons_succ, List.all_cons, List.all_nil, ↓reduceIte, reduceCtorEq, ge_iff_le, gt_iff_lt, eq_self_iff_true, beq_self_eq_true, beq_iff_eq, bne_iff_ne, ne_eq, ite_not, Int.reduceEq, Option.getD_some, Option.getD_none, ite_self, Nat.reduceAdd, Nat.reduceSub, Nat.reduceMul, Nat.reduceLeDiff, Nat.reduceEqDiff, Nat.reduceBEq, Nat.reduceBNe, Int.reduceLT, Int.reduceLE, Int.reduceAdd, Int.reduceSub, Int.reduceMul, Int.reduceNeg, Int.reduceNe, Int.reduceBEq, Int.reduceBNe, Int.reduceToNat, hb, hu1, hu2, mustK, kMust, p_entry_pen_limits_111_eq, p_entry_pen_limits_1111_eq, encU_is, Bool.and_self, Bool.and_eq_true, decide_eq_true_eq, Bool.true_or, Bool.false_or, Bool.true_and, true_or, false_or] <;> rfl) hc
def kTag (n : Int) (acc : List UInt8) : KR := (kPut [0] acc).bind fun _ acc => kIndex n acc
theorem tagK {n : Int} (hc : c < List.length H) : runK c (C k_entry_pen_tag [.ptr c 0, .int .i64 n]) (St H c (pB acc) L) = outK c H L pB encU (kTag n acc) := liftK (fun H hc => by
  have hb := fun L acc => byteK (c := c) (H := H) (L := L) (acc := acc) (n := 0) (by omega) (by omega) hc
  rw [entry_pen_tag_eq]
  unfold kTag
  simp (contextual := true) (dsimp := false) (disch := omega) only [↓kDown, kUp, ↓goDown, goUp, List.length_cons, List.length_nil, List.map_cons, List.map_nil, List.take_succ_cons, List.take_zero, List.drop_succ_cons, List.drop_zero, List.drop_nil, List.take_nil, List.cons_append, List.nil_append, List.append_nil, List.set_cons_zero, List.set_cons_succ, List.all_cons, List.all_nil, ↓reduceIte, reduceCtorEq, ge_iff_le, gt_iff_lt, eq_self_iff_true, beq_self_eq_true, beq_iff_eq, bne_iff_ne, ne_eq, ite_not, Int.reduceEq, Option.getD_some, Option.getD_none, ite_self, Nat.reduceAdd, Nat.reduceSub, Nat.reduceMul, Nat.reduceLeDiff, Nat.reduceEqDiff, Nat.reduceBEq, Nat.reduceBNe, Int.reduceLT, Int.reduceLE, Int.reduceAdd, Int.reduceSub, Int.reduceMul, Int.reduceNeg, Int.reduceNe, Int.reduceBEq, Int.reduceBNe, Int.reduceToNat, hb, indexK, encU_is] <;> rfl) hc
theorem get_j {bx1 : Box} {j : Nat} (hj : hget H j = some bx1) (hjc : j < c) (hc : c < List.length H) {a : Box} {L : List Box} : hget (St H c a L) j = some bx1 := by
  unfold St
  rw [get_old1 (by omega), get_set_ne (by omega)]
  exact hj
theorem pHeapK {h : Int} {j : Nat} (hj : hget H j = some (.cells [.int .i64 h])) (hjc : j < c) (hc : c < List.length H) : runK c (C k_entry_PutHeapType_1 [.ptr c 0, .ptr j 0]) (St H c (pB acc) []) = outK c H [] pB encU (kHeap h acc) := by
  have hg := fun a L => get_j hj hjc hc (a := a) (L := L)
  rw [entry_PutHeapType_1_eq]
  simp (contextual := true) (dsimp := false) (disch := omega) only [↓kDown, kUp, ↓goDown, goUp, List.length_cons, List.length_nil, List.map_cons, List.map_nil, List.take_succ_cons, List.take_zero, List.drop_succ_cons, List.drop_zero, List.drop_nil, List.take_nil, List.cons_append, List.nil_append, List.append_nil, List.set_cons_zero, List.set_cons_succ, List.all_cons, List.all_nil, ↓reduceIte, reduceCtorEq, ge_iff_le, gt_iff_lt, eq_self_iff_true, beq_self_eq_true, beq_iff_eq, bne_iff_ne, ne_eq, ite_not, Int.reduceEq, Option.getD_some, Option.getD_none, ite_self, Nat.reduceAdd, Nat.reduceSub, Nat.reduceMul, Nat.reduceLeDiff, Nat.reduceEqDiff, Nat.reduceBEq, Nat.reduceBNe, Int.reduceLT, Int.reduceLE, Int.reduceAdd, Int.reduceSub, Int.reduceMul, Int.reduceNeg, Int.reduceNe, Int.reduceBEq, Int.reduceBNe, Int.reduceToNat, hg, heapK, encU_is]
theorem pValK {v : VT} {j : Nat} (hj : hget H j = some (.cells [.int .i64 v.num, .bool v.nul, .int .i64 v.heap])) (hjc : j < c) (hc : c < List.length H) : runK c (C k_entry_PutValType_1 [.ptr c 0, .ptr j 0]) (St H c (pB acc) []) = outK c H [] pB encU (kVal v acc) := by
  have hg := fun a L => get_j hj hjc hc (a := a) (L := L)
  rw [entry_PutValType_1_eq]
  simp (contextual := true) (dsimp := false) (disch := omega) only [↓kDown, kUp, ↓goDown, goUp, List.length_cons, List.length_nil, List.map_cons, List.map_nil, List.take_succ_cons, List.take_zero, List.drop_succ_cons, List.drop_zero, List.drop_nil, List.take_nil, List.cons_append, List.nil_append, List.append_nil, List.set_cons_zero, List.set_cons_succ, List.all_cons, List.all_nil, ↓reduceIte, reduceCtorEq, ge_iff_le, gt_iff_lt, eq_self_iff_true, beq_self_eq_true, beq_iff_eq, bne_iff_ne, ne_eq, ite_not, Int.reduceEq, Option.getD_some, Option.getD_none, ite_self, Nat.reduceAdd, Nat.reduceSub, Nat.reduceMul, Nat.reduceLeDiff, Nat.reduceEqDiff, Nat.reduceBEq, Nat.reduceBNe, Int.reduceLT, Int.reduceLE, Int.reduceAdd, Int.reduceSub, Int.reduceMul, Int.reduceNeg, Int.reduceNe, Int.reduceBEq, Int.reduceBNe, Int.reduceToNat, hg, valK, encU_is]
theorem pLimitsK {v : LT} {j : Nat} (h1 : 0 ≤ v.min ∧ v.min < 18446744073709551616) (h2 : 0 ≤ v.max ∧ v.max < 18446744073709551616) (hj : hget H j = some (.cells [.bool v.wide, .int .u64 v.min, .int .u64 v.max, .bool v.has])) (hjc : j < c) (hc : c < List.length H) : runK c (C k_entry_PutLimits_1 [.ptr c 0, .ptr j 0]) (St H c (pB acc) []) = outK c H [] pB encU (kLimits v acc) := by
  have hg := fun a L => get_j hj hjc hc (a := a) (L := L)
  have hl := fun L acc => limitsK (c := c) (H := H) (L := L) (acc := acc) h1 h2 hc
  rw [entry_PutLimits_1_eq]
  simp (contextual := true) (dsimp := false) (disch := omega) only [↓kDown, kUp, ↓goDown, goUp, List.length_cons, List.length_nil, List.map_cons, List.map_nil, List.take_succ_cons, List.take_zero, List.drop_succ_cons, List.drop_zero, List.drop_nil, List.take_nil, List.cons_append, List.nil_append, List.append_nil, List.set_cons_zero, List.set_cons_succ, List.all_cons, List.all_nil, ↓reduceIte, reduceCtorEq, ge_iff_le, gt_iff_lt, eq_self_iff_true, beq_self_eq_true, beq_iff_eq, bne_iff_ne, ne_eq, ite_not, Int.reduceEq, Option.getD_some, Option.getD_none, ite_self, Nat.reduceAdd, Nat.reduceSub, Nat.reduceMul, Nat.reduceLeDiff, Nat.reduceEqDiff, Nat.reduceBEq, Nat.reduceBNe, Int.reduceLT, Int.reduceLE, Int.reduceAdd, Int.reduceSub, Int.reduceMul, Int.reduceNeg, Int.reduceNe, Int.reduceBEq, Int.reduceBNe, Int.reduceToNat, hg, hl, encU_is]
theorem pTagK {n : Int} {j : Nat} (hj : hget H j = some (.cells [.int .i64 n])) (hjc : j < c) (hc : c < List.length H) : runK c (C k_entry_PutTag_1 [.ptr c 0, .ptr j 0]) (St H c (pB acc) []) = outK c H [] pB encU (kTag n acc) := by
  have hg := fun a L => get_j hj hjc hc (a := a) (L := L)
  rw [entry_PutTag_1_eq]
  simp (contextual := true) (dsimp := false) (disch := omega) only [↓kDown, kUp, ↓goDown, goUp, List.length_cons, List.length_nil, List.map_cons, List.map_nil, List.take_succ_cons, List.take_zero, List.drop_succ_cons, List.drop_zero, List.drop_nil, List.take_nil, List.cons_append, List.nil_append, List.append_nil, List.set_cons_zero, List.set_cons_succ, List.all_cons, List.all_nil, ↓reduceIte, reduceCtorEq, ge_iff_le, gt_iff_lt, eq_self_iff_true, beq_self_eq_true, beq_iff_eq, bne_iff_ne, ne_eq, ite_not, Int.reduceEq, Option.getD_some, Option.getD_none, ite_self, Nat.reduceAdd, Nat.reduceSub, Nat.reduceMul, Nat.reduceLeDiff, Nat.reduceEqDiff, Nat.reduceBEq, Nat.reduceBNe, Int.reduceLT, Int.reduceLE, Int.reduceAdd, Int.reduceSub, Int.reduceMul, Int.reduceNeg, Int.reduceNe, Int.reduceBEq, Int.reduceBNe, Int.reduceToNat, hg, tagK, encU_is]
def kBlock (v : BK) (acc : List UInt8) : KR :=
  if 0 ≤ v.ty then if v.res = ⟨0, false, 0⟩ ∧ v.ty ≤ 2147483647 then .ok () (putS v.ty) else .err y_entry_fault [0, 4]
  else if v.ty < -1 then .err y_entry_fault [0, 4]
  else if v.res = ⟨0, false, 0⟩ then kPut [64] acc else kVal v.res acc
theorem pBlockK {v : BK} {j : Nat} (hj : hget H j = some (.cells [.int .i64 v.ty, .int .i64 v.res.num, .bool v.res.nul, .int .i64 v.res.heap])) (hjc : j < c) (hc : c < List.length H) : runK c (C k_entry_PutBlockType_1 [.ptr c 0, .ptr j 0]) (St H c (pB acc) []) = outK c H [] pB encU (kBlock v acc) := by
  have hg := fun a L => get_j hj hjc hc (a := a) (L := L)
  have he := fun K => eql_V (H := K) (v := v.res) (n := 0)
  have hb := fun L acc => byteK (c := c) (H := H) (L := L) (acc := acc) (n := 64) (by omega) (by omega) hc
  have hp := fun (h0 : 0 ≤ v.ty) (h1 : v.ty ≤ 2147483647) K => putS_is (H := K) (n := v.ty) (by omega) (by omega)
  rw [entry_PutBlockType_1_eq]
  unfold kBlock
  by_cases h1 : v.res = ⟨0, false, 0⟩
  · rw [decide_eq_true h1] at he
    simp (contextual := true) (dsimp := false) (disch := omega) only [↓kDown, kUp, ↓goDown, goUp, List.length_cons, List.length_nil, List.map_cons, List.map_nil, List.take_succ_cons, List.take_zero, List.drop_succ_cons, List.drop_zero, List.drop_nil, List.take_nil, List.cons_append, List.nil_append, List.append_nil, List.set_cons_zero, List.set_cons_succ, List.all_cons, List.all_nil, ↓reduceIte, reduceCtorEq, ge_iff_le, gt_iff_lt, eq_self_iff_true, beq_self_eq_true, beq_iff_eq, bne_iff_ne, ne_eq, ite_not, Int.reduceEq, Option.getD_some, Option.getD_none, ite_self, Nat.reduceAdd, Nat.reduceSub, Nat.reduceMul, Nat.reduceLeDiff, Nat.reduceEqDiff, Nat.reduceBEq, Nat.reduceBNe, Int.reduceLT, Int.reduceLE, Int.reduceAdd, Int.reduceSub, Int.reduceMul, Int.reduceNeg, Int.reduceNe, Int.reduceBEq, Int.reduceBNe, Int.reduceToNat, hg, he, eq_true h1, hb, toK (m := C k_entry_fits [.int .i64 v.ty]), fits_is, mustK, kMust, toK (m := C k_leb_PutS [.int .i64 v.ty]), hp, isCell_B, cells_B, low_B, encU_is] <;> rfl
  · rw [decide_eq_false h1] at he
    simp (contextual := true) (dsimp := false) (disch := omega) only [↓kDown, kUp, ↓goDown, goUp, List.length_cons, List.length_nil, List.map_cons, List.map_nil, List.take_succ_cons, List.take_zero, List.drop_succ_cons, List.drop_zero, List.drop_nil, List.take_nil, List.cons_append, List.nil_append, List.append_nil, List.set_cons_zero, List.set_cons_succ, List.all_cons, List.all_nil, ↓reduceIte, reduceCtorEq, ge_iff_le, gt_iff_lt, eq_self_iff_true, beq_self_eq_true, beq_iff_eq, bne_iff_ne, ne_eq, ite_not, Int.reduceEq, Option.getD_some, Option.getD_none, ite_self, Nat.reduceAdd, Nat.reduceSub, Nat.reduceMul, Nat.reduceLeDiff, Nat.reduceEqDiff, Nat.reduceBEq, Nat.reduceBNe, Int.reduceLT, Int.reduceLE, Int.reduceAdd, Int.reduceSub, Int.reduceMul, Int.reduceNeg, Int.reduceNe, Int.reduceBEq, Int.reduceBNe, Int.reduceToNat, hg, he, eq_false h1, hb, valK, mustK, kMust, encU_is] <;> rfl
theorem put_heap {h : Int} (hr : OkR (kHeap h [])) : run (C k_entry_PutHeapType [.int .i64 h]) H = outW (kHeap h []) H := by
  have hw := put_1 (H := H) (f1 := k_entry_PutHeapType_1) (bx1 := .cells [.int .i64 h]) hr (fun K j c hj h1 h2 => pHeapK hj h1 h2)
  rw [entry_PutHeapType_eq]
  cases hk : kHeap h [] with
  | ok u acc =>
    rw [hk] at hw
    simp only [outW] at hw ⊢
    simp (contextual := true) (dsimp := false) (disch := omega) only [↓goDown, goUp, List.length_cons, List.length_nil, List.map_cons, List.map_nil, List.take_succ_cons, List.take_zero, List.drop_succ_cons, List.drop_zero, List.drop_nil, List.take_nil, List.cons_append, List.nil_append, List.append_nil, List.set_cons_zero, List.set_cons_succ, List.all_cons, List.all_nil, ↓reduceIte, reduceCtorEq, ge_iff_le, gt_iff_lt, eq_self_iff_true, beq_self_eq_true, beq_iff_eq, bne_iff_ne, ne_eq, ite_not, Int.reduceEq, Option.getD_some, Option.getD_none, ite_self, Nat.reduceAdd, Nat.reduceSub, Nat.reduceMul, Nat.reduceLeDiff, Nat.reduceEqDiff, Nat.reduceBEq, Nat.reduceBNe, Int.reduceLT, Int.reduceLE, Int.reduceAdd, Int.reduceSub, Int.reduceMul, Int.reduceNeg, Int.reduceNe, Int.reduceBEq, Int.reduceBNe, Int.reduceToNat, run_mf, hw, cells_Z, isCell_Z, low_Z, stripC_Z, isTup_Z, strip_Z]
  | err t l =>
    obtain ⟨rfl, p, w, rfl⟩ := hr.1 _ _ hk
    rw [hk] at hw
    simp only [outW, if_true] at hw ⊢
    simp (contextual := true) (dsimp := false) (disch := omega) only [↓goDown, goUp, List.length_cons, List.length_nil, List.map_cons, List.map_nil, List.take_succ_cons, List.take_zero, List.drop_succ_cons, List.drop_zero, List.drop_nil, List.take_nil, List.cons_append, List.nil_append, List.append_nil, List.set_cons_zero, List.set_cons_succ, List.all_cons, List.all_nil, ↓reduceIte, reduceCtorEq, ge_iff_le, gt_iff_lt, eq_self_iff_true, beq_self_eq_true, beq_iff_eq, bne_iff_ne, ne_eq, ite_not, Int.reduceEq, Option.getD_some, Option.getD_none, ite_self, Nat.reduceAdd, Nat.reduceSub, Nat.reduceMul, Nat.reduceLeDiff, Nat.reduceEqDiff, Nat.reduceBEq, Nat.reduceBNe, Int.reduceLT, Int.reduceLE, Int.reduceAdd, Int.reduceSub, Int.reduceMul, Int.reduceNeg, Int.reduceNe, Int.reduceBEq, Int.reduceBNe, Int.reduceToNat, run_mf, hw, cells_Z, isCell_Z, low_Z, stripC_Z, isTup_Z, strip_Z]
  | no => exact absurd hk hr.2
theorem put_val {v : VT} (hr : OkR (kVal v [])) : run (C k_entry_PutValType [.agg [.int .i64 v.num, .bool v.nul, .int .i64 v.heap]]) H = outW (kVal v []) H := by
  have hw := put_1 (H := H) (f1 := k_entry_PutValType_1) (bx1 := .cells [.int .i64 v.num, .bool v.nul, .int .i64 v.heap]) hr (fun K j c hj h1 h2 => pValK hj h1 h2)
  rw [entry_PutValType_eq]
  cases hk : kVal v [] with
  | ok u acc =>
    rw [hk] at hw
    simp only [outW] at hw ⊢
    simp (contextual := true) (dsimp := false) (disch := omega) only [↓goDown, goUp, List.length_cons, List.length_nil, List.map_cons, List.map_nil, List.take_succ_cons, List.take_zero, List.drop_succ_cons, List.drop_zero, List.drop_nil, List.take_nil, List.cons_append, List.nil_append, List.append_nil, List.set_cons_zero, List.set_cons_succ, List.all_cons, List.all_nil, ↓reduceIte, reduceCtorEq, ge_iff_le, gt_iff_lt, eq_self_iff_true, beq_self_eq_true, beq_iff_eq, bne_iff_ne, ne_eq, ite_not, Int.reduceEq, Option.getD_some, Option.getD_none, ite_self, Nat.reduceAdd, Nat.reduceSub, Nat.reduceMul, Nat.reduceLeDiff, Nat.reduceEqDiff, Nat.reduceBEq, Nat.reduceBNe, Int.reduceLT, Int.reduceLE, Int.reduceAdd, Int.reduceSub, Int.reduceMul, Int.reduceNeg, Int.reduceNe, Int.reduceBEq, Int.reduceBNe, Int.reduceToNat, run_mf, hw, cells_Z, isCell_Z, low_Z, stripC_Z, isTup_Z, strip_Z]
  | err t l =>
    obtain ⟨rfl, p, w, rfl⟩ := hr.1 _ _ hk
    rw [hk] at hw
    simp only [outW, if_true] at hw ⊢
    simp (contextual := true) (dsimp := false) (disch := omega) only [↓goDown, goUp, List.length_cons, List.length_nil, List.map_cons, List.map_nil, List.take_succ_cons, List.take_zero, List.drop_succ_cons, List.drop_zero, List.drop_nil, List.take_nil, List.cons_append, List.nil_append, List.append_nil, List.set_cons_zero, List.set_cons_succ, List.all_cons, List.all_nil, ↓reduceIte, reduceCtorEq, ge_iff_le, gt_iff_lt, eq_self_iff_true, beq_self_eq_true, beq_iff_eq, bne_iff_ne, ne_eq, ite_not, Int.reduceEq, Option.getD_some, Option.getD_none, ite_self, Nat.reduceAdd, Nat.reduceSub, Nat.reduceMul, Nat.reduceLeDiff, Nat.reduceEqDiff, Nat.reduceBEq, Nat.reduceBNe, Int.reduceLT, Int.reduceLE, Int.reduceAdd, Int.reduceSub, Int.reduceMul, Int.reduceNeg, Int.reduceNe, Int.reduceBEq, Int.reduceBNe, Int.reduceToNat, run_mf, hw, cells_Z, isCell_Z, low_Z, stripC_Z, isTup_Z, strip_Z]
  | no => exact absurd hk hr.2
theorem put_block {v : BK} (hr : OkR (kBlock v [])) : run (C k_entry_PutBlockType [.agg [.int .i64 v.ty, .int .i64 v.res.num, .bool v.res.nul, .int .i64 v.res.heap]]) H = outW (kBlock v []) H := by
  have hw := put_1 (H := H) (f1 := k_entry_PutBlockType_1) (bx1 := .cells [.int .i64 v.ty, .int .i64 v.res.num, .bool v.res.nul, .int .i64 v.res.heap]) hr (fun K j c hj h1 h2 => pBlockK hj h1 h2)
  rw [entry_PutBlockType_eq]
  cases hk : kBlock v [] with
  | ok u acc =>
    rw [hk] at hw
    simp only [outW] at hw ⊢
    simp (contextual := true) (dsimp := false) (disch := omega) only [↓goDown, goUp, List.length_cons, List.length_nil, List.map_cons, List.map_nil, List.take_succ_cons, List.take_zero, List.drop_succ_cons, List.drop_zero, List.drop_nil, List.take_nil, List.cons_append, List.nil_append, List.append_nil, List.set_cons_zero, List.set_cons_succ, List.all_cons, List.all_nil, ↓reduceIte, reduceCtorEq, ge_iff_le, gt_iff_lt, eq_self_iff_true, beq_self_eq_true, beq_iff_eq, bne_iff_ne, ne_eq, ite_not, Int.reduceEq, Option.getD_some, Option.getD_none, ite_self, Nat.reduceAdd, Nat.reduceSub, Nat.reduceMul, Nat.reduceLeDiff, Nat.reduceEqDiff, Nat.reduceBEq, Nat.reduceBNe, Int.reduceLT, Int.reduceLE, Int.reduceAdd, Int.reduceSub, Int.reduceMul, Int.reduceNeg, Int.reduceNe, Int.reduceBEq, Int.reduceBNe, Int.reduceToNat, run_mf, hw, cells_Z, isCell_Z, low_Z, stripC_Z, isTup_Z, strip_Z]
  | err t l =>
    obtain ⟨rfl, p, w, rfl⟩ := hr.1 _ _ hk
    rw [hk] at hw
    simp only [outW, if_true] at hw ⊢
    simp (contextual := true) (dsimp := false) (disch := omega) only [↓goDown, goUp, List.length_cons, List.length_nil, List.map_cons, List.map_nil, List.take_succ_cons, List.take_zero, List.drop_succ_cons, List.drop_zero, List.drop_nil, List.take_nil, List.cons_append, List.nil_append, List.append_nil, List.set_cons_zero, List.set_cons_succ, List.all_cons, List.all_nil, ↓reduceIte, reduceCtorEq, ge_iff_le, gt_iff_lt, eq_self_iff_true, beq_self_eq_true, beq_iff_eq, bne_iff_ne, ne_eq, ite_not, Int.reduceEq, Option.getD_some, Option.getD_none, ite_self, Nat.reduceAdd, Nat.reduceSub, Nat.reduceMul, Nat.reduceLeDiff, Nat.reduceEqDiff, Nat.reduceBEq, Nat.reduceBNe, Int.reduceLT, Int.reduceLE, Int.reduceAdd, Int.reduceSub, Int.reduceMul, Int.reduceNeg, Int.reduceNe, Int.reduceBEq, Int.reduceBNe, Int.reduceToNat, run_mf, hw, cells_Z, isCell_Z, low_Z, stripC_Z, isTup_Z, strip_Z]
  | no => exact absurd hk hr.2
theorem put_limits {v : LT} (a1 : 0 ≤ v.min ∧ v.min < 18446744073709551616) (a2 : 0 ≤ v.max ∧ v.max < 18446744073709551616) (hr : OkR (kLimits v [])) : run (C k_entry_PutLimits [.agg [.bool v.wide, .int .u64 v.min, .int .u64 v.max, .bool v.has]]) H = outW (kLimits v []) H := by
  have hw := put_1 (H := H) (f1 := k_entry_PutLimits_1) (bx1 := .cells [.bool v.wide, .int .u64 v.min, .int .u64 v.max, .bool v.has]) hr (fun K j c hj h1 h2 => pLimitsK a1 a2 hj h1 h2)
  rw [entry_PutLimits_eq]
  cases hk : kLimits v [] with
  | ok u acc =>
    rw [hk] at hw
    simp only [outW] at hw ⊢
    simp (contextual := true) (dsimp := false) (disch := omega) only [↓goDown, goUp, List.length_cons, List.length_nil, List.map_cons, List.map_nil, List.take_succ_cons, List.take_zero, List.drop_succ_cons, List.drop_zero, List.drop_nil, List.take_nil, List.cons_append, List.nil_append, List.append_nil, List.set_cons_zero, List.set_cons_succ, List.all_cons, List.all_nil, ↓reduceIte, reduceCtorEq, ge_iff_le, gt_iff_lt, eq_self_iff_true, beq_self_eq_true, beq_iff_eq, bne_iff_ne, ne_eq, ite_not, Int.reduceEq, Option.getD_some, Option.getD_none, ite_self, Nat.reduceAdd, Nat.reduceSub, Nat.reduceMul, Nat.reduceLeDiff, Nat.reduceEqDiff, Nat.reduceBEq, Nat.reduceBNe, Int.reduceLT, Int.reduceLE, Int.reduceAdd, Int.reduceSub, Int.reduceMul, Int.reduceNeg, Int.reduceNe, Int.reduceBEq, Int.reduceBNe, Int.reduceToNat, run_mf, hw, cells_Z, isCell_Z, low_Z, stripC_Z, isTup_Z, strip_Z]
  | err t l =>
    obtain ⟨rfl, p, w, rfl⟩ := hr.1 _ _ hk
    rw [hk] at hw
    simp only [outW, if_true] at hw ⊢
    simp (contextual := true) (dsimp := false) (disch := omega) only [↓goDown, goUp, List.length_cons, List.length_nil, List.map_cons, List.map_nil, List.take_succ_cons, List.take_zero, List.drop_succ_cons, List.drop_zero, List.drop_nil, List.take_nil, List.cons_append, List.nil_append, List.append_nil, List.set_cons_zero, List.set_cons_succ, List.all_cons, List.all_nil, ↓reduceIte, reduceCtorEq, ge_iff_le, gt_iff_lt, eq_self_iff_true, beq_self_eq_true, beq_iff_eq, bne_iff_ne, ne_eq, ite_not, Int.reduceEq, Option.getD_some, Option.getD_none, ite_self, Nat.reduceAdd, Nat.reduceSub, Nat.reduceMul, Nat.reduceLeDiff, Nat.reduceEqDiff, Nat.reduceBEq, Nat.reduceBNe, Int.reduceLT, Int.reduceLE, Int.reduceAdd, Int.reduceSub, Int.reduceMul, Int.reduceNeg, Int.reduceNe, Int.reduceBEq, Int.reduceBNe, Int.reduceToNat, run_mf, hw, cells_Z, isCell_Z, low_Z, stripC_Z, isTup_Z, strip_Z]
  | no => exact absurd hk hr.2
theorem put_tag {n : Int} (hr : OkR (kTag n [])) : run (C k_entry_PutTag [.int .i64 n]) H = outW (kTag n []) H := by
  have hw := put_1 (H := H) (f1 := k_entry_PutTag_1) (bx1 := .cells [.int .i64 n]) hr (fun K j c hj h1 h2 => pTagK hj h1 h2)
  rw [entry_PutTag_eq]
  cases hk : kTag n [] with
  | ok u acc =>
    rw [hk] at hw
    simp only [outW] at hw ⊢
    simp (contextual := true) (dsimp := false) (disch := omega) only [↓goDown, goUp, List.length_cons, List.length_nil, List.map_cons, List.map_nil, List.take_succ_cons, List.take_zero, List.drop_succ_cons, List.drop_zero, List.drop_nil, List.take_nil, List.cons_append, List.nil_append, List.append_nil, List.set_cons_zero, List.set_cons_succ, List.all_cons, List.all_nil, ↓reduceIte, reduceCtorEq, ge_iff_le, gt_iff_lt, eq_self_iff_true, beq_self_eq_true, beq_iff_eq, bne_iff_ne, ne_eq, ite_not, Int.reduceEq, Option.getD_some, Option.getD_none, ite_self, Nat.reduceAdd, Nat.reduceSub, Nat.reduceMul, Nat.reduceLeDiff, Nat.reduceEqDiff, Nat.reduceBEq, Nat.reduceBNe, Int.reduceLT, Int.reduceLE, Int.reduceAdd, Int.reduceSub, Int.reduceMul, Int.reduceNeg, Int.reduceNe, Int.reduceBEq, Int.reduceBNe, Int.reduceToNat, run_mf, hw, cells_Z, isCell_Z, low_Z, stripC_Z, isTup_Z, strip_Z]
  | err t l =>
    obtain ⟨rfl, p, w, rfl⟩ := hr.1 _ _ hk
    rw [hk] at hw
    simp only [outW, if_true] at hw ⊢
    simp (contextual := true) (dsimp := false) (disch := omega) only [↓goDown, goUp, List.length_cons, List.length_nil, List.map_cons, List.map_nil, List.take_succ_cons, List.take_zero, List.drop_succ_cons, List.drop_zero, List.drop_nil, List.take_nil, List.cons_append, List.nil_append, List.append_nil, List.set_cons_zero, List.set_cons_succ, List.all_cons, List.all_nil, ↓reduceIte, reduceCtorEq, ge_iff_le, gt_iff_lt, eq_self_iff_true, beq_self_eq_true, beq_iff_eq, bne_iff_ne, ne_eq, ite_not, Int.reduceEq, Option.getD_some, Option.getD_none, ite_self, Nat.reduceAdd, Nat.reduceSub, Nat.reduceMul, Nat.reduceLeDiff, Nat.reduceEqDiff, Nat.reduceBEq, Nat.reduceBNe, Int.reduceLT, Int.reduceLE, Int.reduceAdd, Int.reduceSub, Int.reduceMul, Int.reduceNeg, Int.reduceNe, Int.reduceBEq, Int.reduceBNe, Int.reduceToNat, run_mf, hw, cells_Z, isCell_Z, low_Z, stripC_Z, isTup_Z, strip_Z]
  | no => exact absurd hk hr.2
end Go.Proofs.Ytofbbijagbpicaa.Pi.Q
namespace Go.Proofs.Ytofbbijagbpicaa.Pi.Q
open Go Go.Proofs.Ytofbbijagbpicaa.Pi
set_option linter.unusedVariables false
set_option linter.unusedSimpArgs false
set_option maxRecDepth 100000
attribute [local congr] ite_congr
structure WS where
  b : List UInt8
  e : Int
abbrev GR := Res WS Unit
abbrev wB (s : WS) : Box := .cells [accB s.b, .int .i64 s.e]
variable {c : Nat} {H : Heap} {L : List Box} {b : List UInt8} {f : Int}
theorem WS.eta {s : WS} : (⟨s.b, s.e⟩ : WS) = s := nrfl rfl
def gPut (u : List UInt8) (s : WS) : GR := if s.b.length + u.length ≤ 140737488355328 then .ok () ⟨s.b ++ u, s.e⟩ else .no
def gMust (ok : Bool) (e : Int) (s : WS) : WS := ⟨s.b, if ok = false ∧ s.e = 0 then e else s.e⟩
theorem gmustK {ok : Bool} {e : Int} (hc : c < List.length H) : runK c (C k_ratchetref08_writing_must [.ptr c 0, .bool ok, .int .i64 e]) (St H c (.cells [accB b, .int .i64 f]) L) = outK c H L wB encU (.ok () (gMust ok e ⟨b, f⟩)) := liftK (fun H hc => by
  rw [ratchetref08_writing_must_eq]
  unfold gMust
  cases ok
  · by_cases h : f = 0
    · simp (contextual := true) (dsimp := false) (disch := omega) only [↓kDown, kUp, ↓goDown, goUp, List.length_cons, List.length_nil, List.map_cons, List.map_nil, List.take_succ_cons, List.take_zero, List.drop_succ_cons, List.drop_zero, List.drop_nil, List.take_nil, List.cons_append, List.nil_append, List.append_nil, List.set_cons_zero, List.set_cons_succ, List.all_cons, List.all_nil, ↓reduceIte, reduceCtorEq, ge_iff_le, gt_iff_lt, eq_self_iff_true, beq_self_eq_true, beq_iff_eq, bne_iff_ne, ne_eq, ite_not, Int.reduceEq, Option.getD_some, Option.getD_none, ite_self, Nat.reduceAdd, Nat.reduceSub, Nat.reduceMul, Nat.reduceLeDiff, Nat.reduceEqDiff, Nat.reduceBEq, Nat.reduceBNe, Int.reduceLT, Int.reduceLE, Int.reduceAdd, Int.reduceSub, Int.reduceMul, Int.reduceNeg, Int.reduceNe, Int.reduceBEq, Int.reduceBNe, Int.reduceToNat, un_not, h, isCell_B, cells_B, low_B, encU_is]
    · simp (contextual := true) (dsimp := false) (disch := omega) only [↓kDown, kUp, ↓goDown, goUp, List.length_cons, List.length_nil, List.map_cons, List.map_nil, List.take_succ_cons, List.take_zero, List.drop_succ_cons, List.drop_zero, List.drop_nil, List.take_nil, List.cons_append, List.nil_append, List.append_nil, List.set_cons_zero, List.set_cons_succ, List.all_cons, List.all_nil, ↓reduceIte, reduceCtorEq, ge_iff_le, gt_iff_lt, eq_self_iff_true, beq_self_eq_true, beq_iff_eq, bne_iff_ne, ne_eq, ite_not, Int.reduceEq, Option.getD_some, Option.getD_none, ite_self, Nat.reduceAdd, Nat.reduceSub, Nat.reduceMul, Nat.reduceLeDiff, Nat.reduceEqDiff, Nat.reduceBEq, Nat.reduceBNe, Int.reduceLT, Int.reduceLE, Int.reduceAdd, Int.reduceSub, Int.reduceMul, Int.reduceNeg, Int.reduceNe, Int.reduceBEq, Int.reduceBNe, Int.reduceToNat, un_not, h, isCell_B, cells_B, low_B, encU_is]
  · simp (contextual := true) (dsimp := false) (disch := omega) only [↓kDown, kUp, ↓goDown, goUp, List.length_cons, List.length_nil, List.map_cons, List.map_nil, List.take_succ_cons, List.take_zero, List.drop_succ_cons, List.drop_zero, List.drop_nil, List.take_nil, List.cons_append, List.nil_append, List.append_nil, List.set_cons_zero, List.set_cons_succ, List.all_cons, List.all_nil, ↓reduceIte, reduceCtorEq, ge_iff_le, gt_iff_lt, eq_self_iff_true, beq_self_eq_true, beq_iff_eq, bne_iff_ne, ne_eq, ite_not, Int.reduceEq, Option.getD_some, Option.getD_none, ite_self, Nat.reduceAdd, Nat.reduceSub, Nat.reduceMul, Nat.reduceLeDiff, Nat.reduceEqDiff, Nat.reduceBEq, Nat.reduceBNe, Int.reduceLT, Int.reduceLE, Int.reduceAdd, Int.reduceSub, Int.reduceMul, Int.reduceNeg, Int.reduceNe, Int.reduceBEq, Int.reduceBNe, Int.reduceToNat, un_not, isCell_B, cells_B, low_B, encU_is]) hc
theorem guK {n : Int} (h0 : 0 ≤ n) (h1 : n < 18446744073709551616) (hc : c < List.length H) : runK c (C k_ratchetref08_writing_u [.ptr c 0, .int .u64 n]) (St H c (.cells [accB b, .int .i64 f]) L) = outK c H L wB encU (gPut (putU n.toNat) ⟨b, f⟩) := liftK (fun H hc => by
  obtain ⟨n, rfl⟩ := Int.eq_ofNat_of_zero_le h0
  have hp := fun K => rputU_is (H := K) (n := n) (by omega)
  rw [ratchetref08_writing_u_eq, Int.toNat_natCast]
  unfold gPut
  simp (contextual := true) (dsimp := false) (disch := omega) only [↓kDown, kUp, ↓goDown, goUp, List.length_cons, List.length_nil, List.map_cons, List.map_nil, List.take_succ_cons, List.take_zero, List.drop_succ_cons, List.drop_zero, List.drop_nil, List.take_nil, List.cons_append, List.nil_append, List.append_nil, List.set_cons_zero, List.set_cons_succ, List.all_cons, List.all_nil, ↓reduceIte, reduceCtorEq, ge_iff_le, gt_iff_lt, eq_self_iff_true, beq_self_eq_true, beq_iff_eq, bne_iff_ne, ne_eq, ite_not, Int.reduceEq, Option.getD_some, Option.getD_none, ite_self, Nat.reduceAdd, Nat.reduceSub, Nat.reduceMul, Nat.reduceLeDiff, Nat.reduceEqDiff, Nat.reduceBEq, Nat.reduceBNe, Int.reduceLT, Int.reduceLE, Int.reduceAdd, Int.reduceSub, Int.reduceMul, Int.reduceNeg, Int.reduceNe, Int.reduceBEq, Int.reduceBNe, Int.reduceToNat, hp, ap_X, isCell_B, cells_B, low_B, encU_is]) hc
def gMany (n most : Int) (s : WS) : GR := gPut (putU n.toNat) (gMust (decide (n ≤ most)) 2 s)
theorem gmanyK {n most : Int} (h0 : 0 ≤ n) (h1 : n < 9223372036854775808) (hc : c < List.length H) : runK c (C k_ratchetref08_writing_many [.ptr c 0, .int .i64 n, .int .i64 most]) (St H c (.cells [accB b, .int .i64 f]) L) = outK c H L wB encU (gMany n most ⟨b, f⟩) := liftK (fun H hc => by
  rw [ratchetref08_writing_many_eq]
  unfold gMany
  simp (contextual := true) (dsimp := false) (disch := omega) only [↓kDown, kUp, ↓goDown, goUp, List.length_cons, List.length_nil, List.map_cons, List.map_nil, List.take_succ_cons, List.take_zero, List.drop_succ_cons, List.drop_zero, List.drop_nil, List.take_nil, List.cons_append, List.nil_append, List.append_nil, List.set_cons_zero, List.set_cons_succ, List.all_cons, List.all_nil, ↓reduceIte, reduceCtorEq, ge_iff_le, gt_iff_lt, eq_self_iff_true, beq_self_eq_true, beq_iff_eq, bne_iff_ne, ne_eq, ite_not, Int.reduceEq, Option.getD_some, Option.getD_none, ite_self, Nat.reduceAdd, Nat.reduceSub, Nat.reduceMul, Nat.reduceLeDiff, Nat.reduceEqDiff, Nat.reduceBEq, Nat.reduceBNe, Int.reduceLT, Int.reduceLE, Int.reduceAdd, Int.reduceSub, Int.reduceMul, Int.reduceNeg, Int.reduceNe, Int.reduceBEq, Int.reduceBNe, Int.reduceToNat, gmustK, guK, encU_is]) hc
def gIndex (n : Int) (s : WS) : GR := if 0 ≤ n then gPut (putU n.toNat) (gMust (decide (n < 2147483648)) 4 s) else .ok () (gMust false 4 s)
theorem gindexK {n : Int} (h1 : n ≤ 9223372036854775807) (hc : c < List.length H) : runK c (C k_ratchetref08_writing_index [.ptr c 0, .int .i64 n]) (St H c (.cells [accB b, .int .i64 f]) L) = outK c H L wB encU (gIndex n ⟨b, f⟩) := liftK (fun H hc => by
  rw [ratchetref08_writing_index_eq]
  unfold gIndex
  simp (contextual := true) (dsimp := false) (disch := omega) only [↓kDown, kUp, ↓goDown, goUp, List.length_cons, List.length_nil, List.map_cons, List.map_nil, List.take_succ_cons, List.take_zero, List.drop_succ_cons, List.drop_zero, List.drop_nil, List.take_nil, List.cons_append, List.nil_append, List.append_nil, List.set_cons_zero, List.set_cons_succ, List.all_cons, List.all_nil, ↓reduceIte, reduceCtorEq, ge_iff_le, gt_iff_lt, eq_self_iff_true, beq_self_eq_true, beq_iff_eq, bne_iff_ne, ne_eq, ite_not, Int.reduceEq, Option.getD_some, Option.getD_none, ite_self, Nat.reduceAdd, Nat.reduceSub, Nat.reduceMul, Nat.reduceLeDiff, Nat.reduceEqDiff, Nat.reduceBEq, Nat.reduceBNe, Int.reduceLT, Int.reduceLE, Int.reduceAdd, Int.reduceSub, Int.reduceMul, Int.reduceNeg, Int.reduceNe, Int.reduceBEq, Int.reduceBNe, Int.reduceToNat, gmustK, guK, encU_is]) hc
def codeN (h : Int) : Nat := match find h absI 0 with | some j => 105 + j | none => 0
theorem code_loop {h : Int} {v2 : PV} (hh : h < 0) : ∀ (l : List Int) (i : Nat), (∀ k (a : Int), l[k]? = some a → hname (105 + i + k) = a) → i + l.length = 12 → ∀ K : Heap,
    run (p_ratchetref08_code_1010 (.int .i64 h) v2 (.int .i64 ((105 + i : Nat) : Int))) K = some (.ok (.int .u8 ((match find h l i with | some j => 105 + j | none => 0 : Nat) : Int)) K)
  | [], i, hl, hi, K => by
    have c1 : ¬ ((105 + i : Nat) : Int) ≤ 116 := by simp at hi; omega
    rw [p_ratchetref08_code_1010_eq]
    simp only [find]
    simp (contextual := true) (dsimp := false) (disch := omega) only [↓goDown, goUp, List.length_cons, List.length_nil, List.map_cons, List.map_nil, List.take_succ_cons, List.take_zero, List.drop_succ_cons, List.drop_zero, List.drop_nil, List.take_nil, List.cons_append, List.nil_append, List.append_nil, List.set_cons_zero, List.set_cons_succ, List.all_cons, List.all_nil, ↓reduceIte, reduceCtorEq, ge_iff_le, gt_iff_lt, eq_self_iff_true, beq_self_eq_true, beq_iff_eq, bne_iff_ne, ne_eq, ite_not, Int.reduceEq, Option.getD_some, Option.getD_none, ite_self, Nat.reduceAdd, Nat.reduceSub, Nat.reduceMul, Nat.reduceLeDiff, Nat.reduceEqDiff, Nat.reduceBEq, Nat.reduceBNe, Int.reduceLT, Int.reduceLE, Int.reduceAdd, Int.reduceSub, Int.reduceMul, Int.reduceNeg, Int.reduceNe, Int.reduceBEq, Int.reduceBNe, Int.reduceToNat, c1]
    rfl
  | a :: r, i, hl, hi, K => by
    have hi12 : i < 12 := by simp at hi; omega
    have c1 : ((105 + i : Nat) : Int) ≤ 116 := by omega
    have ha : hname (105 + i) = a := by simpa using hl 0 a rfl
    have hab := fun K => rabs_is (H := K) (c := 105 + i)
    rw [ha] at hab
    have e1 : ((105 + i : Nat) : Int) + 1 = ((105 + (i + 1) : Nat) : Int) := by omega
    have ih := code_loop (h := h) (v2 := v2) hh r (i + 1) (fun k b hb => by
      have := hl (k + 1) b (by simpa using hb)
      rwa [show 105 + i + (k + 1) = 105 + (i + 1) + k by omega] at this) (by simp at hi; omega)
    rw [p_ratchetref08_code_1010_eq]
    unfold find
    by_cases hc : a = h
    · rw [if_pos hc]
      have c2 : (a = h) = True := eq_true hc
      simp (contextual := true) (dsimp := false) (disch := omega) only [↓goDown, goUp, List.length_cons, List.length_nil, List.map_cons, List.map_nil, List.take_succ_cons, List.take_zero, List.drop_succ_cons, List.drop_zero, List.drop_nil, List.take_nil, List.cons_append, List.nil_append, List.append_nil, List.set_cons_zero, List.set_cons_succ, List.all_cons, List.all_nil, ↓reduceIte, reduceCtorEq, ge_iff_le, gt_iff_lt, eq_self_iff_true, beq_self_eq_true, beq_iff_eq, bne_iff_ne, ne_eq, ite_not, Int.reduceEq, Option.getD_some, Option.getD_none, ite_self, Nat.reduceAdd, Nat.reduceSub, Nat.reduceMul, Nat.reduceLeDiff, Nat.reduceEqDiff, Nat.reduceBEq, Nat.reduceBNe, Int.reduceLT, Int.reduceLE, Int.reduceAdd, Int.reduceSub, Int.reduceMul, Int.reduceNeg, Int.reduceNe, Int.reduceBEq, Int.reduceBNe, Int.reduceToNat, c1, hab, c2]
    · rw [if_neg hc]
      have c2 : (a = h) = False := eq_false hc
      simp (contextual := true) (dsimp := false) (disch := omega) only [↓goDown, goUp, List.length_cons, List.length_nil, List.map_cons, List.map_nil, List.take_succ_cons, List.take_zero, List.drop_succ_cons, List.drop_zero, List.drop_nil, List.take_nil, List.cons_append, List.nil_append, List.append_nil, List.set_cons_zero, List.set_cons_succ, List.all_cons, List.all_nil, ↓reduceIte, reduceCtorEq, ge_iff_le, gt_iff_lt, eq_self_iff_true, beq_self_eq_true, beq_iff_eq, bne_iff_ne, ne_eq, ite_not, Int.reduceEq, Option.getD_some, Option.getD_none, ite_self, Nat.reduceAdd, Nat.reduceSub, Nat.reduceMul, Nat.reduceLeDiff, Nat.reduceEqDiff, Nat.reduceBEq, Nat.reduceBNe, Int.reduceLT, Int.reduceLE, Int.reduceAdd, Int.reduceSub, Int.reduceMul, Int.reduceNeg, Int.reduceNe, Int.reduceBEq, Int.reduceBNe, Int.reduceToNat, c1, hab, c2, e1, ih]
theorem code_is {h : Int} (hh : h < 0) {K : Heap} : run (C k_ratchetref08_code [.int .i64 h]) K = some (.ok (.int .u8 (codeN h : Int)) K) := by
  have hlp := code_loop (h := h) (v2 := .int .u8 0) hh [-11, -9, -8, -7, -6, -5, -3, -1, -10, -4, -2, -12] 0 (fun k a hk => by
    have hk12 : k < 12 := by simpa using (List.getElem?_eq_some_iff.mp hk).1
    have : k = 0 ∨ k = 1 ∨ k = 2 ∨ k = 3 ∨ k = 4 ∨ k = 5 ∨ k = 6 ∨ k = 7 ∨ k = 8 ∨ k = 9 ∨ k = 10 ∨ k = 11 := by omega
    rcases this with rfl | rfl | rfl | rfl | rfl | rfl | rfl | rfl | rfl | rfl | rfl | rfl <;> (simp at hk; subst hk; decide)) rfl K
  have hlp : run (p_ratchetref08_code_1010 (.int .i64 h) (.int .u8 0) (.int .i64 105)) K = some (.ok (.int .u8 (codeN h : Int)) K) := hlp
  rw [ratchetref08_code_eq]
  simp (contextual := true) (dsimp := false) (disch := omega) only [↓goDown, goUp, List.length_cons, List.length_nil, List.map_cons, List.map_nil, List.take_succ_cons, List.take_zero, List.drop_succ_cons, List.drop_zero, List.drop_nil, List.take_nil, List.cons_append, List.nil_append, List.append_nil, List.set_cons_zero, List.set_cons_succ, List.all_cons, List.all_nil, ↓reduceIte, reduceCtorEq, ge_iff_le, gt_iff_lt, eq_self_iff_true, beq_self_eq_true, beq_iff_eq, bne_iff_ne, ne_eq, ite_not, Int.reduceEq, Option.getD_some, Option.getD_none, ite_self, Nat.reduceAdd, Nat.reduceSub, Nat.reduceMul, Nat.reduceLeDiff, Nat.reduceEqDiff, Nat.reduceBEq, Nat.reduceBNe, Int.reduceLT, Int.reduceLE, Int.reduceAdd, Int.reduceSub, Int.reduceMul, Int.reduceNeg, Int.reduceNe, Int.reduceBEq, Int.reduceBNe, Int.reduceToNat, hlp]
theorem find_lt {h : Int} : ∀ (l : List Int) (i j : Nat), find h l i = some j → j < i + l.length
  | [], i, j, e => by cases e
  | a :: r, i, j, e => by
    unfold find at e
    split at e
    · cases e; simp
    · have := find_lt r (i + 1) j e
      simp
      omega
theorem codeN_lt {h : Int} : codeN h < 256 := by
  unfold codeN
  cases hf : find h absI 0 with
  | none => simp
  | some j =>
    have := find_lt _ _ _ hf
    simp [absI] at this ⊢
    omega
def gHeap (h : Int) (s : WS) : GR :=
  if h < 0 then gPut [UInt8.ofNat (codeN h)] (gMust (decide (-12 ≤ h)) 4 s) else gPut (putS h) (gMust (decide (h < 2147483648)) 4 s)
theorem gheapK {h : Int} (h1 : h ≤ 9223372036854775807) (hc : c < List.length H) : runK c (C k_ratchetref08_writing_heap [.ptr c 0, .int .i64 h]) (St H c (.cells [accB b, .int .i64 f]) L) = outK c H L wB encU (gHeap h ⟨b, f⟩) := liftK (fun H hc => by
  have hcd := fun (hh : h < 0) K => code_is (K := K) hh
  have hbs := fun K => bsR_byt (n := codeN h) codeN_lt (K := K)
  have hp := fun (hh : ¬ h < 0) K => rputS_is (H := K) (n := h) (by omega) h1
  rw [ratchetref08_writing_heap_eq]
  unfold gHeap gPut
  by_cases hh : h < 0
  · simp (contextual := true) (dsimp := false) (disch := omega) only [↓kDown, kUp, ↓goDown, goUp, List.length_cons, List.length_nil, List.map_cons, List.map_nil, List.take_succ_cons, List.take_zero, List.drop_succ_cons, List.drop_zero, List.drop_nil, List.take_nil, List.cons_append, List.nil_append, List.append_nil, List.set_cons_zero, List.set_cons_succ, List.all_cons, List.all_nil, ↓reduceIte, reduceCtorEq, ge_iff_le, gt_iff_lt, eq_self_iff_true, beq_self_eq_true, beq_iff_eq, bne_iff_ne, ne_eq, ite_not, Int.reduceEq, Option.getD_some, Option.getD_none, ite_self, Nat.reduceAdd, Nat.reduceSub, Nat.reduceMul, Nat.reduceLeDiff, Nat.reduceEqDiff, Nat.reduceBEq, Nat.reduceBNe, Int.reduceLT, Int.reduceLE, Int.reduceAdd, Int.reduceSub, Int.reduceMul, Int.reduceNeg, Int.reduceNe, Int.reduceBEq, Int.reduceBNe, Int.reduceToNat, eq_true hh, hcd hh, hbs, gmustK, ap_X1, isCell_B, cells_B, low_B, encU_is]
  · simp (contextual := true) (dsimp := false) (disch := omega) only [↓kDown, kUp, ↓goDown, goUp, List.length_cons, List.length_nil, List.map_cons, List.map_nil, List.take_succ_cons, List.take_zero, List.drop_succ_cons, List.drop_zero, List.drop_nil, List.take_nil, List.cons_append, List.nil_append, List.append_nil, List.set_cons_zero, List.set_cons_succ, List.all_cons, List.all_nil, ↓reduceIte, reduceCtorEq, ge_iff_le, gt_iff_lt, eq_self_iff_true, beq_self_eq_true, beq_iff_eq, bne_iff_ne, ne_eq, ite_not, Int.reduceEq, Option.getD_some, Option.getD_none, ite_self, Nat.reduceAdd, Nat.reduceSub, Nat.reduceMul, Nat.reduceLeDiff, Nat.reduceEqDiff, Nat.reduceBEq, Nat.reduceBNe, Int.reduceLT, Int.reduceLE, Int.reduceAdd, Int.reduceSub, Int.reduceMul, Int.reduceNeg, Int.reduceNe, Int.reduceBEq, Int.reduceBNe, Int.reduceToNat, hh, hp hh, gmustK, ap_X, isCell_B, cells_B, low_B, encU_is]) hc
end Go.Proofs.Ytofbbijagbpicaa.Pi.Q
namespace Go.Proofs.Ytofbbijagbpicaa.Pi.Q
open Go Go.Proofs.Ytofbbijagbpicaa.Pi
set_option linter.unusedVariables false
set_option linter.unusedSimpArgs false
set_option maxRecDepth 100000
attribute [local congr] ite_congr
variable {c : Nat} {H : Heap} {L : List Box} {b : List UInt8} {f : Int}
theorem u8_range (x : Int) : 0 ≤ IntKind.u8.wrap x ∧ IntKind.u8.wrap x < 256 := by
  rw [u8_wrap]
  omega
theorem bsR_wrap {x : Int} {K : Heap} : bsR true none [.int .u8 (IntKind.u8.wrap x)] K = some (.ok (.slice true false 1 [byt (UInt8.ofNat (IntKind.u8.wrap x).toNat)]) K) := by
  obtain ⟨h0, h1⟩ := u8_range x
  obtain ⟨n, hn⟩ := Int.eq_ofNat_of_zero_le h0
  rw [hn]
  exact bsR_byt (by omega)
def gByte (n : Int) : UInt8 := if n = 7 then 119 else if n = 6 then 120 else UInt8.ofNat (IntKind.u8.wrap (IntKind.i64.wrap (128 - n))).toNat
def gValOk (field : Bool) (v : VT) : Bool := decide (((1 ≤ v.num ∧ v.num ≤ 4) ∨ (field = true ∧ (v.num = 6 ∨ v.num = 7))) ∧ v.nul = false ∧ v.heap = 0)
def gVal (field : Bool) (v : VT) (s : WS) : GR :=
  if v.num = 5 then if v.nul = true then if v.heap < 0 then gHeap v.heap s else (gPut [99] s).bind fun _ s => gHeap v.heap s else (gPut [100] s).bind fun _ s => gHeap v.heap s
  else gPut [gByte v.num] (gMust (gValOk field v) 4 s)
theorem gvalK {field : Bool} {v : VT} (h1 : v.heap ≤ 9223372036854775807) (hc : c < List.length H) : runK c (C k_ratchetref08_writing_val [.ptr c 0, .agg [.int .i64 v.num, .bool v.nul, .int .i64 v.heap], .bool field]) (St H c (.cells [accB b, .int .i64 f]) L) = outK c H L wB encU (gVal field v ⟨b, f⟩) := liftK (fun H hc => by
  obtain ⟨num, nul, heap⟩ := v
  simp only at h1 ⊢
  have hh := fun L b f => gheapK (c := c) (H := H) (L := L) (b := b) (f := f) (h := heap) h1 hc
  have hb := fun K => bsR_wrap (x := IntKind.i64.wrap (128 - num)) (K := K)
  have b99 : ∀ K, bsR true none [.int .u8 99] K = some (.ok (.slice true false 1 [byt 99]) K) := fun K => bsR_byt (n := 99) (by omega)
  have b100 : ∀ K, bsR true none [.int .u8 100] K = some (.ok (.slice true false 1 [byt 100]) K) := fun K => bsR_byt (n := 100) (by omega)
  have b119 : ∀ K, bsR true none [.int .u8 119] K = some (.ok (.slice true false 1 [byt 119]) K) := fun K => bsR_byt (n := 119) (by omega)
  have b120 : ∀ K, bsR true none [.int .u8 120] K = some (.ok (.slice true false 1 [byt 120]) K) := fun K => bsR_byt (n := 120) (by omega)
  rw [ratchetref08_writing_val_eq]
  unfold gVal
  simp only
  by_cases h5 : num = 5
  · subst h5
    rw [if_pos rfl]
    unfold gPut
    cases nul
    · simp (contextual := true) (dsimp := false) (disch := omega) only [↓kDown, kUp, ↓goDown, goUp, List.length_cons, List.length_nil, List.map_cons, List.map_nil, List.take_succ_cons, List.take_zero, List.drop_succ_cons, List.drop_zero, List.drop_nil, List.take_nil, List.cons_append, List.nil_append, List.append_nil, List.set_cons_zero, List.set_cons_succ, List.all_cons, List.all_nil, ↓reduceIte, reduceCtorEq, ge_iff_le, gt_iff_lt, eq_self_iff_true, beq_self_eq_true, beq_iff_eq, bne_iff_ne, ne_eq, ite_not, Int.reduceEq, Option.getD_some, Option.getD_none, ite_self, Nat.reduceAdd, Nat.reduceSub, Nat.reduceMul, Nat.reduceLeDiff, Nat.reduceEqDiff, Nat.reduceBEq, Nat.reduceBNe, Int.reduceLT, Int.reduceLE, Int.reduceAdd, Int.reduceSub, Int.reduceMul, Int.reduceNeg, Int.reduceNe, Int.reduceBEq, Int.reduceBNe, Int.reduceToNat, hh, b100, ap_X1, p_ratchetref08_writing_val_1111_eq, isCell_B, cells_B, low_B, encU_is]
    · by_cases h0 : heap < 0
      · simp (contextual := true) (dsimp := false) (disch := omega) only [↓kDown, kUp, ↓goDown, goUp, List.length_cons, List.length_nil, List.map_cons, List.map_nil, List.take_succ_cons, List.take_zero, List.drop_succ_cons, List.drop_zero, List.drop_nil, List.take_nil, List.cons_append, List.nil_append, List.append_nil, List.set_cons_zero, List.set_cons_succ, List.all_cons, List.all_nil, ↓reduceIte, reduceCtorEq, ge_iff_le, gt_iff_lt, eq_self_iff_true, beq_self_eq_true, beq_iff_eq, bne_iff_ne, ne_eq, ite_not, Int.reduceEq, Option.getD_some, Option.getD_none, ite_self, Nat.reduceAdd, Nat.reduceSub, Nat.reduceMul, Nat.reduceLeDiff, Nat.reduceEqDiff, Nat.reduceBEq, Nat.reduceBNe, Int.reduceLT, Int.reduceLE, Int.reduceAdd, Int.reduceSub, Int.reduceMul, Int.reduceNeg, Int.reduceNe, Int.reduceBEq, Int.reduceBNe, Int.reduceToNat, eq_true h0, hh, b99, ap_X1, p_ratchetref08_writing_val_1111_eq, isCell_B, cells_B, low_B, encU_is]
      · simp (contextual := true) (dsimp := false) (disch := omega) only [↓kDown, kUp, ↓goDown, goUp, List.length_cons, List.length_nil, List.map_cons, List.map_nil, List.take_succ_cons, List.take_zero, List.drop_succ_cons, List.drop_zero, List.drop_nil, List.take_nil, List.cons_append, List.nil_append, List.append_nil, List.set_cons_zero, List.set_cons_succ, List.all_cons, List.all_nil, ↓reduceIte, reduceCtorEq, ge_iff_le, gt_iff_lt, eq_self_iff_true, beq_self_eq_true, beq_iff_eq, bne_iff_ne, ne_eq, ite_not, Int.reduceEq, Option.getD_some, Option.getD_none, ite_self, Nat.reduceAdd, Nat.reduceSub, Nat.reduceMul, Nat.reduceLeDiff, Nat.reduceEqDiff, Nat.reduceBEq, Nat.reduceBNe, Int.reduceLT, Int.reduceLE, Int.reduceAdd, Int.reduceSub, Int.reduceMul, Int.reduceNeg, Int.reduceNe, Int.reduceBEq, Int.reduceBNe, Int.reduceToNat, h0, hh, b99, ap_X1, p_ratchetref08_writing_val_1111_eq, isCell_B, cells_B, low_B, encU_is]
  · rw [if_neg h5]
    have hyes : (1 ≤ num ∧ num ≤ 4) ∨ (field = true ∧ (num = 6 ∨ num = 7)) → nul = false → gValOk field ⟨num, nul, heap⟩ = (heap == 0) := fun h hn => by
      unfold gValOk
      rw [Bool.eq_iff_iff]
      simp [h, hn]
    have hno : ¬ (((1 ≤ num ∧ num ≤ 4) ∨ (field = true ∧ (num = 6 ∨ num = 7))) ∧ nul = false) → gValOk field ⟨num, nul, heap⟩ = false := fun h => by
      unfold gValOk
      exact decide_eq_false (fun k => h ⟨k.1, k.2.1⟩)
    unfold gPut gByte
    by_cases h6 : num = 6
    · subst h6
      cases nul
      · cases field
        · rw [hno (by simp)]
          simp (contextual := true) (dsimp := false) (disch := omega) only [↓kDown, kUp, ↓goDown, goUp, List.length_cons, List.length_nil, List.map_cons, List.map_nil, List.take_succ_cons, List.take_zero, List.drop_succ_cons, List.drop_zero, List.drop_nil, List.take_nil, List.cons_append, List.nil_append, List.append_nil, List.set_cons_zero, List.set_cons_succ, List.all_cons, List.all_nil, ↓reduceIte, reduceCtorEq, ge_iff_le, gt_iff_lt, eq_self_iff_true, beq_self_eq_true, beq_iff_eq, bne_iff_ne, ne_eq, ite_not, Int.reduceEq, Option.getD_some, Option.getD_none, ite_self, Nat.reduceAdd, Nat.reduceSub, Nat.reduceMul, Nat.reduceLeDiff, Nat.reduceEqDiff, Nat.reduceBEq, Nat.reduceBNe, Int.reduceLT, Int.reduceLE, Int.reduceAdd, Int.reduceSub, Int.reduceMul, Int.reduceNeg, Int.reduceNe, Int.reduceBEq, Int.reduceBNe, Int.reduceToNat, un_not, gmustK, b120, ap_X1, p_ratchetref08_writing_val_10101111_eq, p_ratchetref08_writing_val_101011111_eq, isCell_B, cells_B, low_B, encU_is]
        · rw [hyes (by simp) rfl]
          simp (contextual := true) (dsimp := false) (disch := omega) only [↓kDown, kUp, ↓goDown, goUp, List.length_cons, List.length_nil, List.map_cons, List.map_nil, List.take_succ_cons, List.take_zero, List.drop_succ_cons, List.drop_zero, List.drop_nil, List.take_nil, List.cons_append, List.nil_append, List.append_nil, List.set_cons_zero, List.set_cons_succ, List.all_cons, List.all_nil, ↓reduceIte, reduceCtorEq, ge_iff_le, gt_iff_lt, eq_self_iff_true, beq_self_eq_true, beq_iff_eq, bne_iff_ne, ne_eq, ite_not, Int.reduceEq, Option.getD_some, Option.getD_none, ite_self, Nat.reduceAdd, Nat.reduceSub, Nat.reduceMul, Nat.reduceLeDiff, Nat.reduceEqDiff, Nat.reduceBEq, Nat.reduceBNe, Int.reduceLT, Int.reduceLE, Int.reduceAdd, Int.reduceSub, Int.reduceMul, Int.reduceNeg, Int.reduceNe, Int.reduceBEq, Int.reduceBNe, Int.reduceToNat, un_not, gmustK, b120, ap_X1, p_ratchetref08_writing_val_10101111_eq, p_ratchetref08_writing_val_101011111_eq, isCell_B, cells_B, low_B, encU_is]
      · rw [hno (by simp)]
        cases field <;> simp (contextual := true) (dsimp := false) (disch := omega) only [↓kDown, kUp, ↓goDown, goUp, List.length_cons, List.length_nil, List.map_cons, List.map_nil, List.take_succ_cons, List.take_zero, List.drop_succ_cons, List.drop_zero, List.drop_nil, List.take_nil, List.cons_append, List.nil_append, List.append_nil, List.set_cons_zero, List.set_cons_succ, List.all_cons, List.all_nil, ↓reduceIte, reduceCtorEq, ge_iff_le, gt_iff_lt, eq_self_iff_true, beq_self_eq_true, beq_iff_eq, bne_iff_ne, ne_eq, ite_not, Int.reduceEq, Option.getD_some, Option.getD_none, ite_self, Nat.reduceAdd, Nat.reduceSub, Nat.reduceMul, Nat.reduceLeDiff, Nat.reduceEqDiff, Nat.reduceBEq, Nat.reduceBNe, Int.reduceLT, Int.reduceLE, Int.reduceAdd, Int.reduceSub, Int.reduceMul, Int.reduceNeg, Int.reduceNe, Int.reduceBEq, Int.reduceBNe, Int.reduceToNat, un_not, gmustK, b120, ap_X1, p_ratchetref08_writing_val_10101111_eq, p_ratchetref08_writing_val_101011111_eq, isCell_B, cells_B, low_B, encU_is]
    · by_cases h7 : num = 7
      · subst h7
        cases nul
        · cases field
          · rw [hno (by simp)]
            simp (contextual := true) (dsimp := false) (disch := omega) only [↓kDown, kUp, ↓goDown, goUp, List.length_cons, List.length_nil, List.map_cons, List.map_nil, List.take_succ_cons, List.take_zero, List.drop_succ_cons, List.drop_zero, List.drop_nil, List.take_nil, List.cons_append, List.nil_append, List.append_nil, List.set_cons_zero, List.set_cons_succ, List.all_cons, List.all_nil, ↓reduceIte, reduceCtorEq, ge_iff_le, gt_iff_lt, eq_self_iff_true, beq_self_eq_true, beq_iff_eq, bne_iff_ne, ne_eq, ite_not, Int.reduceEq, Option.getD_some, Option.getD_none, ite_self, Nat.reduceAdd, Nat.reduceSub, Nat.reduceMul, Nat.reduceLeDiff, Nat.reduceEqDiff, Nat.reduceBEq, Nat.reduceBNe, Int.reduceLT, Int.reduceLE, Int.reduceAdd, Int.reduceSub, Int.reduceMul, Int.reduceNeg, Int.reduceNe, Int.reduceBEq, Int.reduceBNe, Int.reduceToNat, un_not, gmustK, b119, ap_X1, p_ratchetref08_writing_val_10101111_eq, p_ratchetref08_writing_val_101011111_eq, isCell_B, cells_B, low_B, encU_is]
          · rw [hyes (by simp) rfl]
            simp (contextual := true) (dsimp := false) (disch := omega) only [↓kDown, kUp, ↓goDown, goUp, List.length_cons, List.length_nil, List.map_cons, List.map_nil, List.take_succ_cons, List.take_zero, List.drop_succ_cons, List.drop_zero, List.drop_nil, List.take_nil, List.cons_append, List.nil_append, List.append_nil, List.set_cons_zero, List.set_cons_succ, List.all_cons, List.all_nil, ↓reduceIte, reduceCtorEq, ge_iff_le, gt_iff_lt, eq_self_iff_true, beq_self_eq_true, beq_iff_eq, bne_iff_ne, ne_eq, ite_not, Int.reduceEq, Option.getD_some, Option.getD_none, ite_self, Nat.reduceAdd, Nat.reduceSub, Nat.reduceMul, Nat.reduceLeDiff, Nat.reduceEqDiff, Nat.reduceBEq, Nat.reduceBNe, Int.reduceLT, Int.reduceLE, Int.reduceAdd, Int.reduceSub, Int.reduceMul, Int.reduceNeg, Int.reduceNe, Int.reduceBEq, Int.reduceBNe, Int.reduceToNat, un_not, gmustK, b119, ap_X1, p_ratchetref08_writing_val_10101111_eq, p_ratchetref08_writing_val_101011111_eq, isCell_B, cells_B, low_B, encU_is]
        · rw [hno (by simp)]
          cases field <;> simp (contextual := true) (dsimp := false) (disch := omega) only [↓kDown, kUp, ↓goDown, goUp, List.length_cons, List.length_nil, List.map_cons, List.map_nil, List.take_succ_cons, List.take_zero, List.drop_succ_cons, List.drop_zero, List.drop_nil, List.take_nil, List.cons_append, List.nil_append, List.append_nil, List.set_cons_zero, List.set_cons_succ, List.all_cons, List.all_nil, ↓reduceIte, reduceCtorEq, ge_iff_le, gt_iff_lt, eq_self_iff_true, beq_self_eq_true, beq_iff_eq, bne_iff_ne, ne_eq, ite_not, Int.reduceEq, Option.getD_some, Option.getD_none, ite_self, Nat.reduceAdd, Nat.reduceSub, Nat.reduceMul, Nat.reduceLeDiff, Nat.reduceEqDiff, Nat.reduceBEq, Nat.reduceBNe, Int.reduceLT, Int.reduceLE, Int.reduceAdd, Int.reduceSub, Int.reduceMul, Int.reduceNeg, Int.reduceNe, Int.reduceBEq, Int.reduceBNe, Int.reduceToNat, un_not, gmustK, b119, ap_X1, p_ratchetref08_writing_val_10101111_eq, p_ratchetref08_writing_val_101011111_eq, isCell_B, cells_B, low_B, encU_is]
      · have c6 : (num == 6) = false := beq_false_of_ne h6
        have c7 : (num == 7) = false := beq_false_of_ne h7
        by_cases a1 : 1 ≤ num
        · by_cases a2 : num ≤ 4
          · have hb2 : ∀ K, bsR true none [.int .u8 (128 - num)] K = some (.ok (.slice true false 1 [byt (UInt8.ofNat (128 - num).toNat)]) K) := fun K => by
              obtain ⟨n, hn⟩ := Int.eq_ofNat_of_zero_le (show 0 ≤ 128 - num by omega)
              rw [hn]
              exact bsR_byt (by omega)
            cases nul
            · rw [hyes (.inl ⟨a1, a2⟩) rfl]
              cases field <;> simp (contextual := true) (dsimp := false) (disch := omega) only [↓kDown, kUp, ↓goDown, goUp, List.length_cons, List.length_nil, List.map_cons, List.map_nil, List.take_succ_cons, List.take_zero, List.drop_succ_cons, List.drop_zero, List.drop_nil, List.take_nil, List.cons_append, List.nil_append, List.append_nil, List.set_cons_zero, List.set_cons_succ, List.all_cons, List.all_nil, ↓reduceIte, reduceCtorEq, ge_iff_le, gt_iff_lt, eq_self_iff_true, beq_self_eq_true, beq_iff_eq, bne_iff_ne, ne_eq, ite_not, Int.reduceEq, Option.getD_some, Option.getD_none, ite_self, Nat.reduceAdd, Nat.reduceSub, Nat.reduceMul, Nat.reduceLeDiff, Nat.reduceEqDiff, Nat.reduceBEq, Nat.reduceBNe, Int.reduceLT, Int.reduceLE, Int.reduceAdd, Int.reduceSub, Int.reduceMul, Int.reduceNeg, Int.reduceNe, Int.reduceBEq, Int.reduceBNe, Int.reduceToNat, h5, h6, h7, c6, c7, eq_true a1, eq_true a2, un_not, gmustK, hb2, ap_X1, p_ratchetref08_writing_val_10101111_eq, p_ratchetref08_writing_val_101011111_eq, isCell_B, cells_B, low_B, encU_is]
            · rw [hno (by simp)]
              cases field <;> simp (contextual := true) (dsimp := false) (disch := omega) only [↓kDown, kUp, ↓goDown, goUp, List.length_cons, List.length_nil, List.map_cons, List.map_nil, List.take_succ_cons, List.take_zero, List.drop_succ_cons, List.drop_zero, List.drop_nil, List.take_nil, List.cons_append, List.nil_append, List.append_nil, List.set_cons_zero, List.set_cons_succ, List.all_cons, List.all_nil, ↓reduceIte, reduceCtorEq, ge_iff_le, gt_iff_lt, eq_self_iff_true, beq_self_eq_true, beq_iff_eq, bne_iff_ne, ne_eq, ite_not, Int.reduceEq, Option.getD_some, Option.getD_none, ite_self, Nat.reduceAdd, Nat.reduceSub, Nat.reduceMul, Nat.reduceLeDiff, Nat.reduceEqDiff, Nat.reduceBEq, Nat.reduceBNe, Int.reduceLT, Int.reduceLE, Int.reduceAdd, Int.reduceSub, Int.reduceMul, Int.reduceNeg, Int.reduceNe, Int.reduceBEq, Int.reduceBNe, Int.reduceToNat, h5, h6, h7, c6, c7, eq_true a1, eq_true a2, un_not, gmustK, hb2, ap_X1, p_ratchetref08_writing_val_10101111_eq, p_ratchetref08_writing_val_101011111_eq, isCell_B, cells_B, low_B, encU_is]
          · rw [hno (by simp [h6, h7, a2])]
            cases field <;> simp (contextual := true) (dsimp := false) (disch := omega) only [↓kDown, kUp, ↓goDown, goUp, List.length_cons, List.length_nil, List.map_cons, List.map_nil, List.take_succ_cons, List.take_zero, List.drop_succ_cons, List.drop_zero, List.drop_nil, List.take_nil, List.cons_append, List.nil_append, List.append_nil, List.set_cons_zero, List.set_cons_succ, List.all_cons, List.all_nil, ↓reduceIte, reduceCtorEq, ge_iff_le, gt_iff_lt, eq_self_iff_true, beq_self_eq_true, beq_iff_eq, bne_iff_ne, ne_eq, ite_not, Int.reduceEq, Option.getD_some, Option.getD_none, ite_self, Nat.reduceAdd, Nat.reduceSub, Nat.reduceMul, Nat.reduceLeDiff, Nat.reduceEqDiff, Nat.reduceBEq, Nat.reduceBNe, Int.reduceLT, Int.reduceLE, Int.reduceAdd, Int.reduceSub, Int.reduceMul, Int.reduceNeg, Int.reduceNe, Int.reduceBEq, Int.reduceBNe, Int.reduceToNat, h5, h6, h7, c6, c7, eq_true a1, a2, un_not, gmustK, hb, ap_X1, p_ratchetref08_writing_val_10101111_eq, p_ratchetref08_writing_val_101011111_eq, isCell_B, cells_B, low_B, encU_is]
        · rw [hno (by simp [h6, h7, a1])]
          cases field <;> simp (contextual := true) (dsimp := false) (disch := omega) only [↓kDown, kUp, ↓goDown, goUp, List.length_cons, List.length_nil, List.map_cons, List.map_nil, List.take_succ_cons, List.take_zero, List.drop_succ_cons, List.drop_zero, List.drop_nil, List.take_nil, List.cons_append, List.nil_append, List.append_nil, List.set_cons_zero, List.set_cons_succ, List.all_cons, List.all_nil, ↓reduceIte, reduceCtorEq, ge_iff_le, gt_iff_lt, eq_self_iff_true, beq_self_eq_true, beq_iff_eq, bne_iff_ne, ne_eq, ite_not, Int.reduceEq, Option.getD_some, Option.getD_none, ite_self, Nat.reduceAdd, Nat.reduceSub, Nat.reduceMul, Nat.reduceLeDiff, Nat.reduceEqDiff, Nat.reduceBEq, Nat.reduceBNe, Int.reduceLT, Int.reduceLE, Int.reduceAdd, Int.reduceSub, Int.reduceMul, Int.reduceNeg, Int.reduceNe, Int.reduceBEq, Int.reduceBNe, Int.reduceToNat, h5, h6, h7, c6, c7, a1, un_not, gmustK, hb, ap_X1, p_ratchetref08_writing_val_10101111_eq, p_ratchetref08_writing_val_101011111_eq, isCell_B, cells_B, low_B, encU_is]) hc
end Go.Proofs.Ytofbbijagbpicaa.Pi.Q
namespace Go.Proofs.Ytofbbijagbpicaa.Pi.Q
open Go Go.Proofs.Ytofbbijagbpicaa.Pi
set_option linter.unusedVariables false
set_option linter.unusedSimpArgs false
set_option maxRecDepth 100000
attribute [local congr] ite_congr
variable {c : Nat} {H : Heap} {L : List Box} {b : List UInt8} {f : Int}
theorem bs0 {K : Heap} : bsR true none [.int .u8 0] K = some (.ok (.slice true false 1 [byt 0]) K) := bsR_byt (n := 0) (by omega)
theorem bs1 {K : Heap} : bsR true none [.int .u8 1] K = some (.ok (.slice true false 1 [byt 1]) K) := bsR_byt (n := 1) (by omega)
theorem bs4 {K : Heap} : bsR true none [.int .u8 4] K = some (.ok (.slice true false 1 [byt 4]) K) := bsR_byt (n := 4) (by omega)
theorem bs5 {K : Heap} : bsR true none [.int .u8 5] K = some (.ok (.slice true false 1 [byt 5]) K) := bsR_byt (n := 5) (by omega)
theorem bs64 {K : Heap} : bsR true none [.int .u8 64] K = some (.ok (.slice true false 1 [byt 64]) K) := bsR_byt (n := 64) (by omega)
theorem bs78 {K : Heap} : bsR true none [.int .u8 78] K = some (.ok (.slice true false 1 [byt 78]) K) := bsR_byt (n := 78) (by omega)
theorem bs79 {K : Heap} : bsR true none [.int .u8 79] K = some (.ok (.slice true false 1 [byt 79]) K) := bsR_byt (n := 79) (by omega)
theorem bs80 {K : Heap} : bsR true none [.int .u8 80] K = some (.ok (.slice true false 1 [byt 80]) K) := bsR_byt (n := 80) (by omega)
theorem bs94 {K : Heap} : bsR true none [.int .u8 94] K = some (.ok (.slice true false 1 [byt 94]) K) := bsR_byt (n := 94) (by omega)
theorem bs95 {K : Heap} : bsR true none [.int .u8 95] K = some (.ok (.slice true false 1 [byt 95]) K) := bsR_byt (n := 95) (by omega)
theorem bs96 {K : Heap} : bsR true none [.int .u8 96] K = some (.ok (.slice true false 1 [byt 96]) K) := bsR_byt (n := 96) (by omega)
def gFlag (t : Bool) (s : WS) : GR := gPut [if t then 1 else 0] s
theorem gflagK {t : Bool} (hc : c < List.length H) : runK c (C k_ratchetref08_writing_flag [.ptr c 0, .bool t]) (St H c (.cells [accB b, .int .i64 f]) L) = outK c H L wB encU (gFlag t ⟨b, f⟩) := liftK (fun H hc => by
  rw [ratchetref08_writing_flag_eq]
  unfold gFlag gPut
  cases t <;> simp (contextual := true) (dsimp := false) (disch := omega) only [↓kDown, kUp, ↓goDown, goUp, List.length_cons, List.length_nil, List.map_cons, List.map_nil, List.take_succ_cons, List.take_zero, List.drop_succ_cons, List.drop_zero, List.drop_nil, List.take_nil, List.cons_append, List.nil_append, List.append_nil, List.set_cons_zero, List.set_cons_succ, List.all_cons, List.all_nil, ↓reduceIte, reduceCtorEq, ge_iff_le, gt_iff_lt, eq_self_iff_true, beq_self_eq_true, beq_iff_eq, bne_iff_ne, ne_eq, ite_not, Int.reduceEq, Option.getD_some, Option.getD_none, ite_self, Nat.reduceAdd, Nat.reduceSub, Nat.reduceMul, Nat.reduceLeDiff, Nat.reduceEqDiff, Nat.reduceBEq, Nat.reduceBNe, Int.reduceLT, Int.reduceLE, Int.reduceAdd, Int.reduceSub, Int.reduceMul, Int.reduceNeg, Int.reduceNe, Int.reduceBEq, Int.reduceBNe, Int.reduceToNat, bs0, bs1, ap_X1, p_ratchetref08_writing_flag_11_eq, isCell_B, cells_B, low_B, encU_is]) hc
def gField (v : FT) (s : WS) : GR := (gVal true v.ty s).bind fun _ s => gFlag v.mu s
theorem gfieldK {v : FT} (h1 : v.ty.heap ≤ 9223372036854775807) (hc : c < List.length H) : runK c (C k_ratchetref08_writing_field [.ptr c 0, .agg [.int .i64 v.ty.num, .bool v.ty.nul, .int .i64 v.ty.heap, .bool v.mu]]) (St H c (.cells [accB b, .int .i64 f]) L) = outK c H L wB encU (gField v ⟨b, f⟩) := liftK (fun H hc => by
  have hv := fun L b f => gvalK (c := c) (H := H) (L := L) (b := b) (f := f) (field := true) (v := v.ty) h1 hc
  rw [ratchetref08_writing_field_eq]
  unfold gField
  simp (contextual := true) (dsimp := false) (disch := omega) only [↓kDown, kUp, ↓goDown, goUp, List.length_cons, List.length_nil, List.map_cons, List.map_nil, List.take_succ_cons, List.take_zero, List.drop_succ_cons, List.drop_zero, List.drop_nil, List.take_nil, List.cons_append, List.nil_append, List.append_nil, List.set_cons_zero, List.set_cons_succ, List.all_cons, List.all_nil, ↓reduceIte, reduceCtorEq, ge_iff_le, gt_iff_lt, eq_self_iff_true, beq_self_eq_true, beq_iff_eq, bne_iff_ne, ne_eq, ite_not, Int.reduceEq, Option.getD_some, Option.getD_none, ite_self, Nat.reduceAdd, Nat.reduceSub, Nat.reduceMul, Nat.reduceLeDiff, Nat.reduceEqDiff, Nat.reduceBEq, Nat.reduceBNe, Int.reduceLT, Int.reduceLE, Int.reduceAdd, Int.reduceSub, Int.reduceMul, Int.reduceNeg, Int.reduceNe, Int.reduceBEq, Int.reduceBNe, Int.reduceToNat, hv, gflagK, encU_is, WS.eta]) hc
def gAll {α : Type} (one : α → WS → GR) : List α → WS → GR
  | [], s => .ok () s
  | v :: r, s => (one v s).bind fun _ s => gAll one r s
theorem gvals_loop {z : Bool} {l : List VT} (hl : l.length < 2 ^ 62) (hv : ∀ v ∈ l, v.heap ≤ 9223372036854775807) (hc : c < List.length H) : ∀ (m i : Nat) (b : List UInt8) (f : Int), i + m = l.length →
    runK c (p_ratchetref08_writing_vals_110 (.ptr c 0) (LZ z 3 (l.map encV)) (.int .i64 i)) (St H c (.cells [accB b, .int .i64 f]) []) = outK c H [] wB encU (gAll (gVal false) (l.drop i) ⟨b, f⟩)
  | 0, i, b, f, hi => by
    have c1 : ¬ (i : Int) < l.length := by omega
    have e0 : l.drop i = [] := List.drop_eq_nil_of_le (by omega)
    rw [e0, p_ratchetref08_writing_vals_110_eq]
    simp (contextual := true) (dsimp := false) (disch := omega) only [↓kDown, kUp, ↓goDown, goUp, List.length_cons, List.length_nil, List.map_cons, List.map_nil, List.take_succ_cons, List.take_zero, List.drop_succ_cons, List.drop_zero, List.drop_nil, List.take_nil, List.cons_append, List.nil_append, List.append_nil, List.set_cons_zero, List.set_cons_succ, List.all_cons, List.all_nil, ↓reduceIte, reduceCtorEq, ge_iff_le, gt_iff_lt, eq_self_iff_true, beq_self_eq_true, beq_iff_eq, bne_iff_ne, ne_eq, ite_not, Int.reduceEq, Option.getD_some, Option.getD_none, ite_self, Nat.reduceAdd, Nat.reduceSub, Nat.reduceMul, Nat.reduceLeDiff, Nat.reduceEqDiff, Nat.reduceBEq, Nat.reduceBNe, Int.reduceLT, Int.reduceLE, Int.reduceAdd, Int.reduceSub, Int.reduceMul, Int.reduceNeg, Int.reduceNe, Int.reduceBEq, Int.reduceBNe, Int.reduceToNat, c1, ln_Z, List.length_map, strip_Z, gAll, encU_is]
  | m + 1, i, b, f, hi => by
    have c1 : (i : Int) < l.length := by omega
    have hil : i < l.length := by omega
    have hia : ∀ K, run (iaS 3 (LZ z 3 (l.map encV)) (.int .i64 i)) K = some (.ok (.elem [.int .i64 l[i].num, .bool l[i].nul, .int .i64 l[i].heap]) K) := fun K => (ia_Z (x := encV l[i]) (by simp [hil])).trans rfl
    have hd : l.drop i = l[i] :: l.drop (i + 1) := List.drop_eq_getElem_cons hil
    have e1 : ((i : Int) + 1) = ((i + 1 : Nat) : Int) := rfl
    have h1 := fun b f => gvalK (c := c) (H := H) (L := []) (b := b) (f := f) (field := false) (v := l[i]) (hv _ (List.getElem_mem hil)) hc
    have ih := fun b f => gvals_loop (z := z) hl hv hc m (i + 1) b f (by omega)
    rw [hd, p_ratchetref08_writing_vals_110_eq]
    simp only [gAll]
    simp (contextual := true) (dsimp := false) (disch := omega) only [↓kDown, kUp, ↓goDown, goUp, List.length_cons, List.length_nil, List.map_cons, List.map_nil, List.take_succ_cons, List.take_zero, List.drop_succ_cons, List.drop_zero, List.drop_nil, List.take_nil, List.cons_append, List.nil_append, List.append_nil, List.set_cons_zero, List.set_cons_succ, List.all_cons, List.all_nil, ↓reduceIte, reduceCtorEq, ge_iff_le, gt_iff_lt, eq_self_iff_true, beq_self_eq_true, beq_iff_eq, bne_iff_ne, ne_eq, ite_not, Int.reduceEq, Option.getD_some, Option.getD_none, ite_self, Nat.reduceAdd, Nat.reduceSub, Nat.reduceMul, Nat.reduceLeDiff, Nat.reduceEqDiff, Nat.reduceBEq, Nat.reduceBNe, Int.reduceLT, Int.reduceLE, Int.reduceAdd, Int.reduceSub, Int.reduceMul, Int.reduceNeg, Int.reduceNe, Int.reduceBEq, Int.reduceBNe, Int.reduceToNat, c1, ln_Z, List.length_map, strip_Z, hia, h1, e1, ih, encU_is, WS.eta]
def gVals (l : List VT) (s : WS) : GR := (gMany l.length 1000 s).bind fun _ s => gAll (gVal false) l s
theorem gvalsK {z : Bool} {l : List VT} (hl : l.length < 2 ^ 62) (hv : ∀ v ∈ l, v.heap ≤ 9223372036854775807) (hc : c < List.length H) : runK c (C k_ratchetref08_writing_vals [.ptr c 0, LZ z 3 (l.map encV)]) (St H c (.cells [accB b, .int .i64 f]) L) = outK c H L wB encU (gVals l ⟨b, f⟩) := liftK (fun H hc => by
  have hlp := fun b f => gvals_loop (z := z) hl hv hc l.length 0 b f (by omega)
  have hlp : ∀ b f, runK c (p_ratchetref08_writing_vals_110 (.ptr c 0) (LZ z 3 (l.map encV)) (.int .i64 0)) (St H c (.cells [accB b, .int .i64 f]) []) = outK c H [] wB encU (gAll (gVal false) l ⟨b, f⟩) := hlp
  have hm := fun L b f => gmanyK (c := c) (H := H) (L := L) (b := b) (f := f) (n := (l.length : Int)) (most := 1000) (by omega) (by omega) hc
  rw [ratchetref08_writing_vals_eq]
  unfold gVals
  simp (contextual := true) (dsimp := false) (disch := omega) only [↓kDown, kUp, ↓goDown, goUp, List.length_cons, List.length_nil, List.map_cons, List.map_nil, List.take_succ_cons, List.take_zero, List.drop_succ_cons, List.drop_zero, List.drop_nil, List.take_nil, List.cons_append, List.nil_append, List.append_nil, List.set_cons_zero, List.set_cons_succ, List.all_cons, List.all_nil, ↓reduceIte, reduceCtorEq, ge_iff_le, gt_iff_lt, eq_self_iff_true, beq_self_eq_true, beq_iff_eq, bne_iff_ne, ne_eq, ite_not, Int.reduceEq, Option.getD_some, Option.getD_none, ite_self, Nat.reduceAdd, Nat.reduceSub, Nat.reduceMul, Nat.reduceLeDiff, Nat.reduceEqDiff, Nat.reduceBEq, Nat.reduceBNe, Int.reduceLT, Int.reduceLE, Int.reduceAdd, Int.reduceSub, Int.reduceMul, Int.reduceNeg, Int.reduceNe, Int.reduceBEq, Int.reduceBNe, Int.reduceToNat, ln_Z, List.length_map, strip_Z, hm, hlp, encU_is, WS.eta]) hc
theorem gcomp_loop {k : Int} {z : Bool} {S1 S2 : PV} {l : List FT} (hl : l.length < 2 ^ 62) (hv : ∀ v ∈ l, v.ty.heap ≤ 9223372036854775807) (hc : c < List.length H) : ∀ (m i : Nat) (b : List UInt8) (f : Int), i + m = l.length →
    runK c (p_ratchetref08_writing_comp_1110 (.ptr c 0) (.ptr H.length 0) (.int .i64 i)) (St H c (.cells [accB b, .int .i64 f]) [.cells [.int .i64 k, S1, S2, LZ z 4 (l.map encF)]]) = outK c H [.cells [.int .i64 k, S1, S2, LZ z 4 (l.map encF)]] wB encU (gAll gField (l.drop i) ⟨b, f⟩)
  | 0, i, b, f, hi => by
    have c1 : ¬ (i : Int) < l.length := by omega
    have e0 : l.drop i = [] := List.drop_eq_nil_of_le (by omega)
    rw [e0, p_ratchetref08_writing_comp_1110_eq]
    simp (contextual := true) (dsimp := false) (disch := omega) only [↓kDown, kUp, ↓goDown, goUp, List.length_cons, List.length_nil, List.map_cons, List.map_nil, List.take_succ_cons, List.take_zero, List.drop_succ_cons, List.drop_zero, List.drop_nil, List.take_nil, List.cons_append, List.nil_append, List.append_nil, List.set_cons_zero, List.set_cons_succ, List.all_cons, List.all_nil, ↓reduceIte, reduceCtorEq, ge_iff_le, gt_iff_lt, eq_self_iff_true, beq_self_eq_true, beq_iff_eq, bne_iff_ne, ne_eq, ite_not, Int.reduceEq, Option.getD_some, Option.getD_none, ite_self, Nat.reduceAdd, Nat.reduceSub, Nat.reduceMul, Nat.reduceLeDiff, Nat.reduceEqDiff, Nat.reduceBEq, Nat.reduceBNe, Int.reduceLT, Int.reduceLE, Int.reduceAdd, Int.reduceSub, Int.reduceMul, Int.reduceNeg, Int.reduceNe, Int.reduceBEq, Int.reduceBNe, Int.reduceToNat, c1, ln_Z, stripC_Z, List.length_map, strip_Z, gAll, encU_is]
  | m + 1, i, b, f, hi => by
    have c1 : (i : Int) < l.length := by omega
    have hil : i < l.length := by omega
    have hia : ∀ K, run (iaS 4 (LZ z 4 (l.map encF)) (.int .i64 i)) K = some (.ok (.elem [.int .i64 l[i].ty.num, .bool l[i].ty.nul, .int .i64 l[i].ty.heap, .bool l[i].mu]) K) := fun K => (ia_Z (x := encF l[i]) (by simp [hil])).trans rfl
    have hd : l.drop i = l[i] :: l.drop (i + 1) := List.drop_eq_getElem_cons hil
    have e1 : ((i : Int) + 1) = ((i + 1 : Nat) : Int) := rfl
    have h1 := fun L b f => gfieldK (c := c) (H := H) (L := L) (b := b) (f := f) (v := l[i]) (hv _ (List.getElem_mem hil)) hc
    have ih := fun b f => gcomp_loop (k := k) (z := z) (S1 := S1) (S2 := S2) hl hv hc m (i + 1) b f (by omega)
    rw [hd, p_ratchetref08_writing_comp_1110_eq]
    simp only [gAll]
    simp (contextual := true) (dsimp := false) (disch := omega) only [↓kDown, kUp, ↓goDown, goUp, List.length_cons, List.length_nil, List.map_cons, List.map_nil, List.take_succ_cons, List.take_zero, List.drop_succ_cons, List.drop_zero, List.drop_nil, List.take_nil, List.cons_append, List.nil_append, List.append_nil, List.set_cons_zero, List.set_cons_succ, List.all_cons, List.all_nil, ↓reduceIte, reduceCtorEq, ge_iff_le, gt_iff_lt, eq_self_iff_true, beq_self_eq_true, beq_iff_eq, bne_iff_ne, ne_eq, ite_not, Int.reduceEq, Option.getD_some, Option.getD_none, ite_self, Nat.reduceAdd, Nat.reduceSub, Nat.reduceMul, Nat.reduceLeDiff, Nat.reduceEqDiff, Nat.reduceBEq, Nat.reduceBNe, Int.reduceLT, Int.reduceLE, Int.reduceAdd, Int.reduceSub, Int.reduceMul, Int.reduceNeg, Int.reduceNe, Int.reduceBEq, Int.reduceBNe, Int.reduceToNat, c1, ln_Z, stripC_Z, List.length_map, strip_Z, hia, h1, e1, ih, encU_is, WS.eta]
def CT.wide (v : CT) : Prop := (∀ a ∈ v.ps, a.heap ≤ 9223372036854775807) ∧ (∀ a ∈ v.rs, a.heap ≤ 9223372036854775807) ∧ ∀ a ∈ v.fs, a.ty.heap ≤ 9223372036854775807
def gComp (v : CT) (s : WS) : GR :=
  if v.kind = 1 then (gPut [96] (gMust ((v.fs.length : Int) == 0) 4 s)).bind fun _ s => (gVals v.ps s).bind fun _ s => gVals v.rs s
  else if v.kind = 2 then (gPut [95] (gMust (((v.ps.length : Int) == 0) && ((v.rs.length : Int) == 0)) 4 s)).bind fun _ s => (gMany v.fs.length 10000 s).bind fun _ s => gAll gField v.fs s
  else if v.kind = 3 then (gPut [94] (gMust ((((v.ps.length : Int) == 0) && ((v.rs.length : Int) == 0)) && ((v.fs.length : Int) == 1)) 4 s)).bind fun _ s => gAll gField v.fs s
  else gAll gField v.fs (gMust false 4 s)
theorem gcompK {v : CG} (hv : v.plain.fit) (hw : v.plain.wide) (hc : c < List.length H) : runK c (C k_ratchetref08_writing_comp [.ptr c 0, .agg [.int .i64 v.kind, LZ v.ps.z 3 (v.ps.l.map encV), LZ v.rs.z 3 (v.rs.l.map encV), LZ v.fs.z 4 (v.fs.l.map encF)]]) (St H c (.cells [accB b, .int .i64 f]) L) = outK c H L wB encU (gComp v.plain ⟨b, f⟩) := liftK (fun H hc => by
  obtain ⟨kind, ⟨z1, ps⟩, ⟨z2, rs⟩, ⟨z3, fs⟩⟩ := v
  obtain ⟨a1, a2, a3⟩ := hv
  obtain ⟨w1, w2, w3⟩ := hw
  simp only [CG.plain] at a1 a2 a3 w1 w2 w3 ⊢
  have hps := fun L b f => gvalsK (c := c) (H := H) (L := L) (b := b) (f := f) (z := z1) a1 w1 hc
  have hrs := fun L b f => gvalsK (c := c) (H := H) (L := L) (b := b) (f := f) (z := z2) a2 w2 hc
  have hlp : ∀ k b f, runK c (p_ratchetref08_writing_comp_1110 (.ptr c 0) (.ptr H.length 0) (.int .i64 0)) (St H c (.cells [accB b, .int .i64 f]) [.cells [.int .i64 k, LZ z1 3 (ps.map encV), LZ z2 3 (rs.map encV), LZ z3 4 (fs.map encF)]]) = outK c H [.cells [.int .i64 k, LZ z1 3 (ps.map encV), LZ z2 3 (rs.map encV), LZ z3 4 (fs.map encF)]] wB encU (gAll gField fs ⟨b, f⟩) := fun k b f => gcomp_loop (k := k) (z := z3) a3 w3 hc fs.length 0 b f (by omega)
  have hm := fun L b f => gmanyK (c := c) (H := H) (L := L) (b := b) (f := f) (n := (fs.length : Int)) (most := 10000) (by omega) (by omega) hc
  rw [ratchetref08_writing_comp_eq]
  unfold gComp
  simp only
  by_cases h1 : kind = 1
  · subst h1
    unfold gPut
    simp (contextual := true) (dsimp := false) (disch := omega) only [↓kDown, kUp, ↓goDown, goUp, List.length_cons, List.length_nil, List.map_cons, List.map_nil, List.take_succ_cons, List.take_zero, List.drop_succ_cons, List.drop_zero, List.drop_nil, List.take_nil, List.cons_append, List.nil_append, List.append_nil, List.set_cons_zero, List.set_cons_succ, List.all_cons, List.all_nil, ↓reduceIte, reduceCtorEq, ge_iff_le, gt_iff_lt, eq_self_iff_true, beq_self_eq_true, beq_iff_eq, bne_iff_ne, ne_eq, ite_not, Int.reduceEq, Option.getD_some, Option.getD_none, ite_self, Nat.reduceAdd, Nat.reduceSub, Nat.reduceMul, Nat.reduceLeDiff, Nat.reduceEqDiff, Nat.reduceBEq, Nat.reduceBNe, Int.reduceLT, Int.reduceLE, Int.reduceAdd, Int.reduceSub, Int.reduceMul, Int.reduceNeg, Int.reduceNe, Int.reduceBEq, Int.reduceBNe, Int.reduceToNat, ln_Z, List.length_map, gmustK, bs96, ap_X1, hps, hrs, encU_is, isCell_B, cells_B, low_B, cells_Z, isCell_Z, low_Z, stripC_Z, isTup_Z, strip_Z, WS.eta]
  · have e1 : (kind == 1) = false := beq_false_of_ne h1
    by_cases h2 : kind = 2
    · subst h2
      unfold gPut
      have c2 : ¬ (2 : Int) = 1 := by omega
      by_cases hp : (ps.length : Int) = 0
      · simp (contextual := true) (dsimp := false) (disch := omega) only [↓kDown, kUp, ↓goDown, goUp, List.length_cons, List.length_nil, List.map_cons, List.map_nil, List.take_succ_cons, List.take_zero, List.drop_succ_cons, List.drop_zero, List.drop_nil, List.take_nil, List.cons_append, List.nil_append, List.append_nil, List.set_cons_zero, List.set_cons_succ, List.all_cons, List.all_nil, ↓reduceIte, reduceCtorEq, ge_iff_le, gt_iff_lt, eq_self_iff_true, beq_self_eq_true, beq_iff_eq, bne_iff_ne, ne_eq, ite_not, Int.reduceEq, Option.getD_some, Option.getD_none, ite_self, Nat.reduceAdd, Nat.reduceSub, Nat.reduceMul, Nat.reduceLeDiff, Nat.reduceEqDiff, Nat.reduceBEq, Nat.reduceBNe, Int.reduceLT, Int.reduceLE, Int.reduceAdd, Int.reduceSub, Int.reduceMul, Int.reduceNeg, Int.reduceNe, Int.reduceBEq, Int.reduceBNe, Int.reduceToNat, c2, hp, ln_Z, List.length_map, gmustK, bs95, ap_X1, hm, hlp, p_ratchetref08_writing_comp_11_eq, encU_is, isCell_B, cells_B, low_B, cells_Z, isCell_Z, low_Z, stripC_Z, isTup_Z, strip_Z, WS.eta]
      · have e3 : ((ps.length : Int) == 0) = false := beq_false_of_ne hp
        simp (contextual := true) (dsimp := false) (disch := omega) only [↓kDown, kUp, ↓goDown, goUp, List.length_cons, List.length_nil, List.map_cons, List.map_nil, List.take_succ_cons, List.take_zero, List.drop_succ_cons, List.drop_zero, List.drop_nil, List.take_nil, List.cons_append, List.nil_append, List.append_nil, List.set_cons_zero, List.set_cons_succ, List.all_cons, List.all_nil, ↓reduceIte, reduceCtorEq, ge_iff_le, gt_iff_lt, eq_self_iff_true, beq_self_eq_true, beq_iff_eq, bne_iff_ne, ne_eq, ite_not, Int.reduceEq, Option.getD_some, Option.getD_none, ite_self, Nat.reduceAdd, Nat.reduceSub, Nat.reduceMul, Nat.reduceLeDiff, Nat.reduceEqDiff, Nat.reduceBEq, Nat.reduceBNe, Int.reduceLT, Int.reduceLE, Int.reduceAdd, Int.reduceSub, Int.reduceMul, Int.reduceNeg, Int.reduceNe, Int.reduceBEq, Int.reduceBNe, Int.reduceToNat, c2, e3, ln_Z, List.length_map, gmustK, bs95, ap_X1, hm, hlp, p_ratchetref08_writing_comp_11_eq, encU_is, isCell_B, cells_B, low_B, cells_Z, isCell_Z, low_Z, stripC_Z, isTup_Z, strip_Z, WS.eta]
    · have e2 : (kind == 2) = false := beq_false_of_ne h2
      by_cases h3 : kind = 3
      · subst h3
        unfold gPut
        have c2 : ¬ (3 : Int) = 1 := by omega
        have c3 : ¬ (3 : Int) = 2 := by omega
        by_cases hp : (ps.length : Int) = 0
        · by_cases hr : (rs.length : Int) = 0
          · simp (contextual := true) (dsimp := false) (disch := omega) only [↓kDown, kUp, ↓goDown, goUp, List.length_cons, List.length_nil, List.map_cons, List.map_nil, List.take_succ_cons, List.take_zero, List.drop_succ_cons, List.drop_zero, List.drop_nil, List.take_nil, List.cons_append, List.nil_append, List.append_nil, List.set_cons_zero, List.set_cons_succ, List.all_cons, List.all_nil, ↓reduceIte, reduceCtorEq, ge_iff_le, gt_iff_lt, eq_self_iff_true, beq_self_eq_true, beq_iff_eq, bne_iff_ne, ne_eq, ite_not, Int.reduceEq, Option.getD_some, Option.getD_none, ite_self, Nat.reduceAdd, Nat.reduceSub, Nat.reduceMul, Nat.reduceLeDiff, Nat.reduceEqDiff, Nat.reduceBEq, Nat.reduceBNe, Int.reduceLT, Int.reduceLE, Int.reduceAdd, Int.reduceSub, Int.reduceMul, Int.reduceNeg, Int.reduceNe, Int.reduceBEq, Int.reduceBNe, Int.reduceToNat, c2, c3, hp, hr, ln_Z, List.length_map, gmustK, bs94, ap_X1, hm, hlp, p_ratchetref08_writing_comp_11_eq, encU_is, isCell_B, cells_B, low_B, cells_Z, isCell_Z, low_Z, stripC_Z, isTup_Z, strip_Z, WS.eta]
          · have e4 : ((rs.length : Int) == 0) = false := beq_false_of_ne hr
            simp (contextual := true) (dsimp := false) (disch := omega) only [↓kDown, kUp, ↓goDown, goUp, List.length_cons, List.length_nil, List.map_cons, List.map_nil, List.take_succ_cons, List.take_zero, List.drop_succ_cons, List.drop_zero, List.drop_nil, List.take_nil, List.cons_append, List.nil_append, List.append_nil, List.set_cons_zero, List.set_cons_succ, List.all_cons, List.all_nil, ↓reduceIte, reduceCtorEq, ge_iff_le, gt_iff_lt, eq_self_iff_true, beq_self_eq_true, beq_iff_eq, bne_iff_ne, ne_eq, ite_not, Int.reduceEq, Option.getD_some, Option.getD_none, ite_self, Nat.reduceAdd, Nat.reduceSub, Nat.reduceMul, Nat.reduceLeDiff, Nat.reduceEqDiff, Nat.reduceBEq, Nat.reduceBNe, Int.reduceLT, Int.reduceLE, Int.reduceAdd, Int.reduceSub, Int.reduceMul, Int.reduceNeg, Int.reduceNe, Int.reduceBEq, Int.reduceBNe, Int.reduceToNat, c2, c3, hp, e4, ln_Z, List.length_map, gmustK, bs94, ap_X1, hm, hlp, p_ratchetref08_writing_comp_11_eq, encU_is, isCell_B, cells_B, low_B, cells_Z, isCell_Z, low_Z, stripC_Z, isTup_Z, strip_Z, WS.eta]
        · have e3 : ((ps.length : Int) == 0) = false := beq_false_of_ne hp
          simp (contextual := true) (dsimp := false) (disch := omega) only [↓kDown, kUp, ↓goDown, goUp, List.length_cons, List.length_nil, List.map_cons, List.map_nil, List.take_succ_cons, List.take_zero, List.drop_succ_cons, List.drop_zero, List.drop_nil, List.take_nil, List.cons_append, List.nil_append, List.append_nil, List.set_cons_zero, List.set_cons_succ, List.all_cons, List.all_nil, ↓reduceIte, reduceCtorEq, ge_iff_le, gt_iff_lt, eq_self_iff_true, beq_self_eq_true, beq_iff_eq, bne_iff_ne, ne_eq, ite_not, Int.reduceEq, Option.getD_some, Option.getD_none, ite_self, Nat.reduceAdd, Nat.reduceSub, Nat.reduceMul, Nat.reduceLeDiff, Nat.reduceEqDiff, Nat.reduceBEq, Nat.reduceBNe, Int.reduceLT, Int.reduceLE, Int.reduceAdd, Int.reduceSub, Int.reduceMul, Int.reduceNeg, Int.reduceNe, Int.reduceBEq, Int.reduceBNe, Int.reduceToNat, c2, c3, e3, ln_Z, List.length_map, gmustK, bs94, ap_X1, hm, hlp, p_ratchetref08_writing_comp_11_eq, encU_is, isCell_B, cells_B, low_B, cells_Z, isCell_Z, low_Z, stripC_Z, isTup_Z, strip_Z, WS.eta]
      · simp (contextual := true) (dsimp := false) (disch := omega) only [↓kDown, kUp, ↓goDown, goUp, List.length_cons, List.length_nil, List.map_cons, List.map_nil, List.take_succ_cons, List.take_zero, List.drop_succ_cons, List.drop_zero, List.drop_nil, List.take_nil, List.cons_append, List.nil_append, List.append_nil, List.set_cons_zero, List.set_cons_succ, List.all_cons, List.all_nil, ↓reduceIte, reduceCtorEq, ge_iff_le, gt_iff_lt, eq_self_iff_true, beq_self_eq_true, beq_iff_eq, bne_iff_ne, ne_eq, ite_not, Int.reduceEq, Option.getD_some, Option.getD_none, ite_self, Nat.reduceAdd, Nat.reduceSub, Nat.reduceMul, Nat.reduceLeDiff, Nat.reduceEqDiff, Nat.reduceBEq, Nat.reduceBNe, Int.reduceLT, Int.reduceLE, Int.reduceAdd, Int.reduceSub, Int.reduceMul, Int.reduceNeg, Int.reduceNe, Int.reduceBEq, Int.reduceBNe, Int.reduceToNat, h1, h2, h3, ln_Z, List.length_map, gmustK, bs94, ap_X1, hm, hlp, p_ratchetref08_writing_comp_11_eq, encU_is, isCell_B, cells_B, low_B, cells_Z, isCell_Z, low_Z, stripC_Z, isTup_Z, strip_Z, WS.eta]) hc
def gSub (v : ST) (s : WS) : GR :=
  if v.fin = true ∧ ¬ (0 < (v.sup.length : Int)) then gComp v.comp s
  else (gPut [if v.fin then 79 else 80] s).bind fun _ s => (gMany v.sup.length 1000 s).bind fun _ s => (gAll gIndex v.sup s).bind fun _ s => gComp v.comp s
def ST.wide (v : ST) : Prop := (∀ a ∈ v.sup, a ≤ 9223372036854775807) ∧ v.comp.wide
theorem gsub_loop {v : SG} (hv : v.plain.fit) (hw : v.plain.wide) (hc : c < List.length H) : ∀ (m i : Nat) (b : List UInt8) (f : Int), i + m = v.sup.l.length →
    runK c (p_ratchetref08_writing_sub_1010111110 (.ptr c 0) (.ptr H.length 0) (.int .i64 i)) (St H c (.cells [accB b, .int .i64 f]) [.cells [.bool v.fin, LZ v.sup.z 1 (v.sup.l.map encI), .int .i64 v.comp.kind, LZ v.comp.ps.z 3 (v.comp.ps.l.map encV), LZ v.comp.rs.z 3 (v.comp.rs.l.map encV), LZ v.comp.fs.z 4 (v.comp.fs.l.map encF)]]) = outK c H [.cells [.bool v.fin, LZ v.sup.z 1 (v.sup.l.map encI), .int .i64 v.comp.kind, LZ v.comp.ps.z 3 (v.comp.ps.l.map encV), LZ v.comp.rs.z 3 (v.comp.rs.l.map encV), LZ v.comp.fs.z 4 (v.comp.fs.l.map encF)]] wB encU ((gAll gIndex (v.sup.l.drop i) ⟨b, f⟩).bind fun _ s => gComp v.comp.plain s)
  | 0, i, b, f, hi => by
    have c1 : ¬ (i : Int) < v.sup.l.length := by omega
    have e0 : v.sup.l.drop i = [] := List.drop_eq_nil_of_le (by omega)
    have hcm := fun L b f => gcompK (c := c) (H := H) (L := L) (b := b) (f := f) (v := v.comp) hv.2 hw.2 hc
    rw [e0, p_ratchetref08_writing_sub_1010111110_eq]
    simp (contextual := true) (dsimp := false) (disch := omega) only [↓kDown, kUp, ↓goDown, goUp, List.length_cons, List.length_nil, List.map_cons, List.map_nil, List.take_succ_cons, List.take_zero, List.drop_succ_cons, List.drop_zero, List.drop_nil, List.take_nil, List.cons_append, List.nil_append, List.append_nil, List.set_cons_zero, List.set_cons_succ, List.all_cons, List.all_nil, ↓reduceIte, reduceCtorEq, ge_iff_le, gt_iff_lt, eq_self_iff_true, beq_self_eq_true, beq_iff_eq, bne_iff_ne, ne_eq, ite_not, Int.reduceEq, Option.getD_some, Option.getD_none, ite_self, Nat.reduceAdd, Nat.reduceSub, Nat.reduceMul, Nat.reduceLeDiff, Nat.reduceEqDiff, Nat.reduceBEq, Nat.reduceBNe, Int.reduceLT, Int.reduceLE, Int.reduceAdd, Int.reduceSub, Int.reduceMul, Int.reduceNeg, Int.reduceNe, Int.reduceBEq, Int.reduceBNe, Int.reduceToNat, c1, ln_Z, stripC_Z, List.length_map, strip_Z, gAll, hcm, p_ratchetref08_writing_sub_11_eq, encU_is, Res.bind]
  | m + 1, i, b, f, hi => by
    have c1 : (i : Int) < v.sup.l.length := by omega
    have hil : i < v.sup.l.length := by omega
    have hia : ∀ K, run (iaS 1 (LZ v.sup.z 1 (v.sup.l.map encI)) (.int .i64 i)) K = some (.ok (.elem [.int .i64 v.sup.l[i]]) K) := fun K => (ia_Z (x := encI v.sup.l[i]) (by simp [hil])).trans rfl
    have hd : v.sup.l.drop i = v.sup.l[i] :: v.sup.l.drop (i + 1) := List.drop_eq_getElem_cons hil
    have e1 : ((i : Int) + 1) = ((i + 1 : Nat) : Int) := rfl
    have h1 := fun L b f => gindexK (c := c) (H := H) (L := L) (b := b) (f := f) (n := v.sup.l[i]) (hw.1 _ (List.getElem_mem hil)) hc
    have ih := fun b f => gsub_loop hv hw hc m (i + 1) b f (by omega)
    have hfit := hv.1
    simp only [SG.plain] at hfit
    rw [hd, p_ratchetref08_writing_sub_1010111110_eq]
    simp only [gAll]
    simp (contextual := true) (dsimp := false) (disch := omega) only [↓kDown, kUp, ↓goDown, goUp, List.length_cons, List.length_nil, List.map_cons, List.map_nil, List.take_succ_cons, List.take_zero, List.drop_succ_cons, List.drop_zero, List.drop_nil, List.take_nil, List.cons_append, List.nil_append, List.append_nil, List.set_cons_zero, List.set_cons_succ, List.all_cons, List.all_nil, ↓reduceIte, reduceCtorEq, ge_iff_le, gt_iff_lt, eq_self_iff_true, beq_self_eq_true, beq_iff_eq, bne_iff_ne, ne_eq, ite_not, Int.reduceEq, Option.getD_some, Option.getD_none, ite_self, Nat.reduceAdd, Nat.reduceSub, Nat.reduceMul, Nat.reduceLeDiff, Nat.reduceEqDiff, Nat.reduceBEq, Nat.reduceBNe, Int.reduceLT, Int.reduceLE, Int.reduceAdd, Int.reduceSub, Int.reduceMul, Int.reduceNeg, Int.reduceNe, Int.reduceBEq, Int.reduceBNe, Int.reduceToNat, c1, ln_Z, stripC_Z, List.length_map, strip_Z, hia, h1, e1, ih, encU_is, WS.eta]
theorem gsubK {v : SG} (hv : v.plain.fit) (hw : v.plain.wide) (hc : c < List.length H) : runK c (C k_ratchetref08_writing_sub [.ptr c 0, .agg [.bool v.fin, LZ v.sup.z 1 (v.sup.l.map encI), .int .i64 v.comp.kind, LZ v.comp.ps.z 3 (v.comp.ps.l.map encV), LZ v.comp.rs.z 3 (v.comp.rs.l.map encV), LZ v.comp.fs.z 4 (v.comp.fs.l.map encF)]]) (St H c (.cells [accB b, .int .i64 f]) L) = outK c H L wB encU (gSub v.plain ⟨b, f⟩) := liftK (fun H hc => by
  have hlp := fun b f => gsub_loop hv hw hc v.sup.l.length 0 b f (by omega)
  have hm := fun L b f => gmanyK (c := c) (H := H) (L := L) (b := b) (f := f) (n := (v.sup.l.length : Int)) (most := 1000) (by omega) (by have := hv.1; simp only [SG.plain] at this; omega) hc
  have hcm := fun L b f => gcompK (c := c) (H := H) (L := L) (b := b) (f := f) (v := v.comp) hv.2 hw.2 hc
  obtain ⟨fin, ⟨z1, sup⟩, ⟨kind, ⟨z2, ps⟩, ⟨z3, rs⟩, ⟨z4, fs⟩⟩⟩ := v
  simp only [SG.plain, CG.plain] at hm hcm hlp ⊢
  have hlp : ∀ b f, runK c (p_ratchetref08_writing_sub_1010111110 (.ptr c 0) (.ptr H.length 0) (.int .i64 0)) (St H c (.cells [accB b, .int .i64 f]) [.cells [.bool fin, LZ z1 1 (sup.map encI), .int .i64 kind, LZ z2 3 (ps.map encV), LZ z3 3 (rs.map encV), LZ z4 4 (fs.map encF)]]) = outK c H [.cells [.bool fin, LZ z1 1 (sup.map encI), .int .i64 kind, LZ z2 3 (ps.map encV), LZ z3 3 (rs.map encV), LZ z4 4 (fs.map encF)]] wB encU ((gAll gIndex sup ⟨b, f⟩).bind fun _ s => gComp ⟨kind, ps, rs, fs⟩ s) := hlp
  rw [ratchetref08_writing_sub_eq]
  unfold gSub gPut
  cases fin <;> simp (contextual := true) (dsimp := false) (disch := omega) only [↓kDown, kUp, ↓goDown, goUp, List.length_cons, List.length_nil, List.map_cons, List.map_nil, List.take_succ_cons, List.take_zero, List.drop_succ_cons, List.drop_zero, List.drop_nil, List.take_nil, List.cons_append, List.nil_append, List.append_nil, List.set_cons_zero, List.set_cons_succ, List.all_cons, List.all_nil, ↓reduceIte, reduceCtorEq, ge_iff_le, gt_iff_lt, eq_self_iff_true, beq_self_eq_true, beq_iff_eq, bne_iff_ne, ne_eq, ite_not, Int.reduceEq, Option.getD_some, Option.getD_none, ite_self, Nat.reduceAdd, Nat.reduceSub, Nat.reduceMul, Nat.reduceLeDiff, Nat.reduceEqDiff, Nat.reduceBEq, Nat.reduceBNe, Int.reduceLT, Int.reduceLE, Int.reduceAdd, Int.reduceSub, Int.reduceMul, Int.reduceNeg, Int.reduceNe, Int.reduceBEq, Int.reduceBNe, Int.reduceToNat, un_not, ln_Z, List.length_map, bs79, bs80, ap_X1, hm, hlp, hcm, p_ratchetref08_writing_sub_101011_eq, p_ratchetref08_writing_sub_11_eq, encU_is, isCell_B, cells_B, low_B, cells_Z, isCell_Z, low_Z, stripC_Z, isTup_Z, strip_Z, WS.eta]) hc
end Go.Proofs.Ytofbbijagbpicaa.Pi.Q
namespace Go.Proofs.Ytofbbijagbpicaa.Pi.Q
open Go Go.Proofs.Ytofbbijagbpicaa.Pi
set_option linter.unusedVariables false
set_option linter.unusedSimpArgs false
set_option maxRecDepth 100000
attribute [local congr] ite_congr
variable {c : Nat} {H : Heap} {L : List Box} {b : List UInt8} {f : Int}
def gLimits (v : LT) (s : WS) : GR :=
  (gPut [if v.has then (if v.wide then 5 else 1) else (if v.wide then 4 else 0)] s).bind fun _ s =>
  (gPut (putU v.min.toNat) (gMust (v.wide || decide (v.min < 4294967296)) 4 s)).bind fun _ s =>
  let s := gMust (if v.wide = true ∨ v.max < 4294967296 then (v.has || (v.max == 0)) else false) 4 s
  if v.has = true then gPut (putU v.max.toNat) s else .ok () s
theorem glimitsK {v : LT} (h1 : 0 ≤ v.min ∧ v.min < 18446744073709551616) (h2 : 0 ≤ v.max ∧ v.max < 18446744073709551616) (hc : c < List.length H) : runK c (C k_ratchetref08_writing_limits [.ptr c 0, .agg [.bool v.wide, .int .u64 v.min, .int .u64 v.max, .bool v.has]]) (St H c (.cells [accB b, .int .i64 f]) L) = outK c H L wB encU (gLimits v ⟨b, f⟩) := liftK (fun H hc => by
  obtain ⟨wide, min, max, has⟩ := v
  simp only at h1 h2 ⊢
  have hu1 := fun L b f => guK (c := c) (H := H) (L := L) (b := b) (f := f) (n := min) h1.1 h1.2 hc
  have hu2 := fun L b f => guK (c := c) (H := H) (L := L) (b := b) (f := f) (n := max) h2.1 h2.2 hc
  rw [ratchetref08_writing_limits_eq]
  unfold gLimits
  simp only
  by_cases hm : max < 4294967296
  · unfold gPut at hu1 hu2 ⊢
    cases wide <;> cases has <;>
      simp (contextual := true) (dsimp := false) (disch := omega) only [↓kDown, kUp, ↓goDown, goUp, List.length_cons, List.length_nil, List.map_cons, List.map_nil, List.take_succ_cons, List.take_zero, List.drop_succ_cons, List.drop_zero, List.drop_nil, List.take_nil, List.cons_append, List.nil_append, List.append_nil, List.set_cons_zero, List.set_cons_succ, List.all_cons, List.all_nil, ↓reduceIte, reduceCtorEq, ge_iff_le, gt_iff_lt, eq_self_iff_true, beq_self_eq_true, beq_iff_eq, bne_iff_ne, ne_eq, ite_not, Int.reduceEq, Option.getD_some, Option.getD_none, ite_self, Nat.reduceAdd, Nat.reduceSub, Nat.reduceMul, Nat.reduceLeDiff, Nat.reduceEqDiff, Nat.reduceBEq, Nat.reduceBNe, Int.reduceLT, Int.reduceLE, Int.reduceAdd, Int.reduceSub, Int.reduceMul, Int.reduceNeg, Int.reduceNe, Int.reduceBEq, Int.reduceBNe, Int.reduceToNat, hm, bs0, bs1, bs4, bs5, ap_X1, hu1, hu2, gmustK, p_ratchetref08_writing_limits_111_eq, p_ratchetref08_writing_limits_1111_eq, encU_is, isCell_B, cells_B, low_B, Bool.and_self, Bool.true_or, Bool.false_or, Bool.true_and, true_or, false_or, or_true, or_false, WS.eta]
  · have e1 : decide (max < 4294967296) = false := decide_eq_false hm
    unfold gPut at hu1 hu2 ⊢
    cases wide <;> cases has <;>
      simp (contextual := true) (dsimp := false) (disch := omega) only [↓kDown, kUp, ↓goDown, goUp, List.length_cons, List.length_nil, List.map_cons, List.map_nil, List.take_succ_cons, List.take_zero, List.drop_succ_cons, List.drop_zero, List.drop_nil, List.take_nil, List.cons_append, List.nil_append, List.append_nil, List.set_cons_zero, List.set_cons_succ, List.all_cons, List.all_nil, ↓reduceIte, reduceCtorEq, ge_iff_le, gt_iff_lt, eq_self_iff_true, beq_self_eq_true, beq_iff_eq, bne_iff_ne, ne_eq, ite_not, Int.reduceEq, Option.getD_some, Option.getD_none, ite_self, Nat.reduceAdd, Nat.reduceSub, Nat.reduceMul, Nat.reduceLeDiff, Nat.reduceEqDiff, Nat.reduceBEq, Nat.reduceBNe, Int.reduceLT, Int.reduceLE, Int.reduceAdd, Int.reduceSub, Int.reduceMul, Int.reduceNeg, Int.reduceNe, Int.reduceBEq, Int.reduceBNe, Int.reduceToNat, hm, e1, bs0, bs1, bs4, bs5, ap_X1, hu1, hu2, gmustK, p_ratchetref08_writing_limits_111_eq, p_ratchetref08_writing_limits_1111_eq, encU_is, isCell_B, cells_B, low_B, Bool.and_self, Bool.true_or, Bool.false_or, Bool.true_and, true_or, false_or, or_true, or_false, WS.eta]) hc
def doneB (b : List UInt8) (f : Int) : Box := if f = 0 then .cells [LZ true 1 (bytes b), .int .i64 f] else .cells [accB b, .int .i64 f]
def doneV (b : List UInt8) (f : Int) : PV := if f = 0 then .tup [accB b, .int .i64 0] else .tup [.slice false true 0 [], .int .i64 f]
theorem done_at (hc : c < List.length H) : run (C k_ratchetref08_writing_done [.ptr c 0]) (St H c (.cells [accB b, .int .i64 f]) L) = some (.ok (doneV b f) (St H c (doneB b f) L)) := by
  rw [ratchetref08_writing_done_eq, St_flat (L := L) hc, St_flat (L := L) hc]
  have hc' : c < List.length (hadd H L) := by rw [len_add]; omega
  generalize hadd H L = K at hc'
  unfold doneV doneB
  by_cases h : f = 0
  · subst h
    simp (contextual := true) (dsimp := false) (disch := omega) only [↓kDown, kUp, ↓goDown, goUp, List.length_cons, List.length_nil, List.map_cons, List.map_nil, List.take_succ_cons, List.take_zero, List.drop_succ_cons, List.drop_zero, List.drop_nil, List.take_nil, List.cons_append, List.nil_append, List.append_nil, List.set_cons_zero, List.set_cons_succ, List.all_cons, List.all_nil, ↓reduceIte, reduceCtorEq, ge_iff_le, gt_iff_lt, eq_self_iff_true, beq_self_eq_true, beq_iff_eq, bne_iff_ne, ne_eq, ite_not, Int.reduceEq, Option.getD_some, Option.getD_none, ite_self, Nat.reduceAdd, Nat.reduceSub, Nat.reduceMul, Nat.reduceLeDiff, Nat.reduceEqDiff, Nat.reduceBEq, Nat.reduceBNe, Int.reduceLT, Int.reduceLE, Int.reduceAdd, Int.reduceSub, Int.reduceMul, Int.reduceNeg, Int.reduceNe, Int.reduceBEq, Int.reduceBNe, Int.reduceToNat, isCell_B, cells_B, low_B, isTup_B, stripC_B]
  · simp (contextual := true) (dsimp := false) (disch := omega) only [↓kDown, kUp, ↓goDown, goUp, List.length_cons, List.length_nil, List.map_cons, List.map_nil, List.take_succ_cons, List.take_zero, List.drop_succ_cons, List.drop_zero, List.drop_nil, List.take_nil, List.cons_append, List.nil_append, List.append_nil, List.set_cons_zero, List.set_cons_succ, List.all_cons, List.all_nil, ↓reduceIte, reduceCtorEq, ge_iff_le, gt_iff_lt, eq_self_iff_true, beq_self_eq_true, beq_iff_eq, bne_iff_ne, ne_eq, ite_not, Int.reduceEq, Option.getD_some, Option.getD_none, ite_self, Nat.reduceAdd, Nat.reduceSub, Nat.reduceMul, Nat.reduceLeDiff, Nat.reduceEqDiff, Nat.reduceBEq, Nat.reduceBNe, Int.reduceLT, Int.reduceLE, Int.reduceAdd, Int.reduceSub, Int.reduceMul, Int.reduceNeg, Int.reduceNe, Int.reduceBEq, Int.reduceBNe, Int.reduceToNat, h, isCell_B, cells_B, low_B, isTup_B, stripC_B]
theorem St_1 {x : Box} : hadd H [x] = St (hadd H [.dead]) (List.length H) x [] := by
  unfold St hadd hset
  rw [List.append_nil, List.set_append_right _ _ (by omega)]
  simp
theorem St_2 {x y : Box} : hadd H [x, y] = St (hadd H [x, .dead]) (List.length H + 1) y [] := by
  unfold St hadd hset
  rw [List.append_nil, List.set_append_right _ _ (by omega)]
  simp
theorem use_1 {m : M PV} {x : Box} {r : GR} {s : WS} (h : runK (List.length H) m (St (hadd H [.dead]) (List.length H) x []) = outK (List.length H) (hadd H [.dead]) [] wB encU r) (hr : r = .ok () s) : run m (hadd H [x]) = some (.ok (.tup []) (hadd H [wB s])) := by
  subst hr
  rw [← St_1, outK_ok, ← St_1] at h
  exact run_of_ok h
theorem use_2 {m : M PV} {x y : Box} {r : GR} {s : WS} (h : runK (List.length H + 1) m (St (hadd H [x, .dead]) (List.length H + 1) y []) = outK (List.length H + 1) (hadd H [x, .dead]) [] wB encU r) (hr : r = .ok () s) : run m (hadd H [x, y]) = some (.ok (.tup []) (hadd H [x, wB s])) := by
  subst hr
  rw [← St_2, outK_ok, ← St_2] at h
  exact run_of_ok h
theorem done_1 : run (C k_ratchetref08_writing_done [.ptr (List.length H) 0]) (hadd H [.cells [accB b, .int .i64 f]]) = some (.ok (doneV b f) (hadd H [doneB b f])) := by
  have := done_at (H := hadd H [.dead]) (c := List.length H) (L := []) (b := b) (f := f) (by rw [len_add]; simp)
  rwa [← St_1, ← St_1] at this
theorem done_2 {x : Box} : run (C k_ratchetref08_writing_done [.ptr (List.length H + 1) 0]) (hadd H [x, .cells [accB b, .int .i64 f]]) = some (.ok (doneV b f) (hadd H [x, doneB b f])) := by
  have := done_at (H := hadd H [x, .dead]) (c := List.length H + 1) (L := []) (b := b) (f := f) (by rw [len_add]; simp)
  rwa [← St_2, ← St_2] at this
theorem doneV_cases (p : PV → Prop) (h1 : p (.tup [accB b, .int .i64 0])) (h2 : p (.tup [.slice false true 0 [], .int .i64 f])) : p (doneV b f) := by
  unfold doneV
  split
  · exact h1
  · exact h2
theorem new1 {x : Box} : List.length H < List.length (hadd H [x]) := by rw [len_add]; simp
theorem new2 {x y : Box} : List.length H + 1 < List.length (hadd H [x, y]) := by rw [len_add]; simp
theorem gput_heap {h : Int} {s : WS} (h1 : h ≤ 9223372036854775807) (hr : gHeap h ⟨[], 0⟩ = .ok () s) : run (C k_ratchetref08_PutHeapType [.int .i64 h]) H = some (.ok (doneV s.b s.e) H) := by
  have hk := use_1 (H := H) (gheapK (L := []) (b := []) (f := 0) h1 new1) hr
  have hp : (.cells [accB [], .int .i64 0] : Box) = .cells [.slice false true 0 [], .int .i64 0] := rfl
  rw [hp] at hk
  have hd := done_1 (H := H) (b := s.b) (f := s.e)
  rw [ratchetref08_PutHeapType_eq]
  revert hd
  refine doneV_cases (fun t => run (C k_ratchetref08_writing_done [.ptr (List.length H) 0]) (hadd H [.cells [accB s.b, .int .i64 s.e]]) = some (.ok t (hadd H [doneB s.b s.e])) → _ = some (Out.ok t H)) ?_ ?_ <;> intro hd <;>
    simp (contextual := true) (dsimp := false) (disch := omega) only [↓goDown, goUp, List.length_cons, List.length_nil, List.map_cons, List.map_nil, List.take_succ_cons, List.take_zero, List.drop_succ_cons, List.drop_zero, List.drop_nil, List.take_nil, List.cons_append, List.nil_append, List.append_nil, List.set_cons_zero, List.set_cons_succ, List.all_cons, List.all_nil, ↓reduceIte, reduceCtorEq, ge_iff_le, gt_iff_lt, eq_self_iff_true, beq_self_eq_true, beq_iff_eq, bne_iff_ne, ne_eq, ite_not, Int.reduceEq, Option.getD_some, Option.getD_none, ite_self, Nat.reduceAdd, Nat.reduceSub, Nat.reduceMul, Nat.reduceLeDiff, Nat.reduceEqDiff, Nat.reduceBEq, Nat.reduceBNe, Int.reduceLT, Int.reduceLE, Int.reduceAdd, Int.reduceSub, Int.reduceMul, Int.reduceNeg, Int.reduceNe, Int.reduceBEq, Int.reduceBNe, Int.reduceToNat, hk, hd, isTup_B, low_B]
theorem gput_val {v : VT} {s : WS} (h1 : v.heap ≤ 9223372036854775807) (hr : gVal false v ⟨[], 0⟩ = .ok () s) : run (C k_ratchetref08_PutValType [.agg [.int .i64 v.num, .bool v.nul, .int .i64 v.heap]]) H = some (.ok (doneV s.b s.e) H) := by
  have hk := use_2 (H := H) (x := .cells [.int .i64 v.num, .bool v.nul, .int .i64 v.heap]) (gvalK (L := []) (b := []) (f := 0) h1 new2) hr
  have hp : (.cells [accB [], .int .i64 0] : Box) = .cells [.slice false true 0 [], .int .i64 0] := rfl
  rw [hp] at hk
  have hd := done_2 (H := H) (x := .cells [.int .i64 v.num, .bool v.nul, .int .i64 v.heap]) (b := s.b) (f := s.e)
  rw [ratchetref08_PutValType_eq]
  revert hd
  refine doneV_cases (fun t => run (C k_ratchetref08_writing_done [.ptr (List.length H + 1) 0]) (hadd H [.cells [.int .i64 v.num, .bool v.nul, .int .i64 v.heap], .cells [accB s.b, .int .i64 s.e]]) = some (.ok t (hadd H [.cells [.int .i64 v.num, .bool v.nul, .int .i64 v.heap], doneB s.b s.e])) → _ = some (Out.ok t H)) ?_ ?_ <;> intro hd <;>
    simp (contextual := true) (dsimp := false) (disch := omega) only [↓goDown, goUp, List.length_cons, List.length_nil, List.map_cons, List.map_nil, List.take_succ_cons, List.take_zero, List.drop_succ_cons, List.drop_zero, List.drop_nil, List.take_nil, List.cons_append, List.nil_append, List.append_nil, List.set_cons_zero, List.set_cons_succ, List.all_cons, List.all_nil, ↓reduceIte, reduceCtorEq, ge_iff_le, gt_iff_lt, eq_self_iff_true, beq_self_eq_true, beq_iff_eq, bne_iff_ne, ne_eq, ite_not, Int.reduceEq, Option.getD_some, Option.getD_none, ite_self, Nat.reduceAdd, Nat.reduceSub, Nat.reduceMul, Nat.reduceLeDiff, Nat.reduceEqDiff, Nat.reduceBEq, Nat.reduceBNe, Int.reduceLT, Int.reduceLE, Int.reduceAdd, Int.reduceSub, Int.reduceMul, Int.reduceNeg, Int.reduceNe, Int.reduceBEq, Int.reduceBNe, Int.reduceToNat, hk, hd, isTup_B, low_B]
theorem gput_limits {v : LT} {s : WS} (h1 : 0 ≤ v.min ∧ v.min < 18446744073709551616) (h2 : 0 ≤ v.max ∧ v.max < 18446744073709551616) (hr : gLimits v ⟨[], 0⟩ = .ok () s) : run (C k_ratchetref08_PutLimits [.agg [.bool v.wide, .int .u64 v.min, .int .u64 v.max, .bool v.has]]) H = some (.ok (doneV s.b s.e) H) := by
  have hk := use_2 (H := H) (x := .cells [.bool v.wide, .int .u64 v.min, .int .u64 v.max, .bool v.has]) (glimitsK (L := []) (b := []) (f := 0) h1 h2 new2) hr
  have hp : (.cells [accB [], .int .i64 0] : Box) = .cells [.slice false true 0 [], .int .i64 0] := rfl
  rw [hp] at hk
  have hd := done_2 (H := H) (x := .cells [.bool v.wide, .int .u64 v.min, .int .u64 v.max, .bool v.has]) (b := s.b) (f := s.e)
  rw [ratchetref08_PutLimits_eq]
  revert hd
  refine doneV_cases (fun t => run (C k_ratchetref08_writing_done [.ptr (List.length H + 1) 0]) (hadd H [.cells [.bool v.wide, .int .u64 v.min, .int .u64 v.max, .bool v.has], .cells [accB s.b, .int .i64 s.e]]) = some (.ok t (hadd H [.cells [.bool v.wide, .int .u64 v.min, .int .u64 v.max, .bool v.has], doneB s.b s.e])) → _ = some (Out.ok t H)) ?_ ?_ <;> intro hd <;>
    simp (contextual := true) (dsimp := false) (disch := omega) only [↓goDown, goUp, List.length_cons, List.length_nil, List.map_cons, List.map_nil, List.take_succ_cons, List.take_zero, List.drop_succ_cons, List.drop_zero, List.drop_nil, List.take_nil, List.cons_append, List.nil_append, List.append_nil, List.set_cons_zero, List.set_cons_succ, List.all_cons, List.all_nil, ↓reduceIte, reduceCtorEq, ge_iff_le, gt_iff_lt, eq_self_iff_true, beq_self_eq_true, beq_iff_eq, bne_iff_ne, ne_eq, ite_not, Int.reduceEq, Option.getD_some, Option.getD_none, ite_self, Nat.reduceAdd, Nat.reduceSub, Nat.reduceMul, Nat.reduceLeDiff, Nat.reduceEqDiff, Nat.reduceBEq, Nat.reduceBNe, Int.reduceLT, Int.reduceLE, Int.reduceAdd, Int.reduceSub, Int.reduceMul, Int.reduceNeg, Int.reduceNe, Int.reduceBEq, Int.reduceBNe, Int.reduceToNat, hk, hd, isTup_B, low_B]
theorem bdO_own {zero : List PV} {off sz : Nat} {z : Bool} {xs : List PV} : run (bdO zero off 1 (.slice true z sz xs)) H = if off + 1 ≤ zero.length then some (.ok (.aggo (fillAt off [.slice true z sz xs] zero)) H) else none := by
  show (bif decide (off + 1 ≤ zero.length) && (1 == 1) then M.pure (PV.aggo (fillAt off [PV.slice true z sz xs] zero)) else M.fail) H = _
  by_cases h : off + 1 ≤ zero.length <;> simp [h, M.pure, M.fail]
theorem bxO_own {n : Nat} {cs : List PV} : run (bxO n (.aggo cs)) H = if cs.length = n ∧ lowL (H.length + 1) cs = true ∧ cs.all isCell = true then some (.ok (.ptr H.length 0) (hadd H [.cells cs])) else none := by
  show (bif cs.length == n && (lowL (H.length + 1) cs && cs.all isCell) then some (Out.ok (PV.ptr H.length 0) (H ++ [.cells cs])) else none) = _
  cases h1 : (cs.length == n) <;> cases h2 : lowL (H.length + 1) cs <;> cases h3 : cs.all isCell <;> simp_all [hadd]
theorem gput_tag {n : Int} {s : WS} (h1 : n ≤ 9223372036854775807) (hr : gIndex n ⟨[0], 0⟩ = .ok () s) : run (C k_ratchetref08_PutTag [.int .i64 n]) H = some (.ok (doneV s.b s.e) H) := by
  have hk := use_1 (H := H) (gindexK (L := []) (b := [0]) (f := 0) h1 new1) hr
  have hp : (.cells [accB [0], .int .i64 0] : Box) = .cells [.slice true false 1 [byt 0], .int .i64 0] := rfl
  rw [hp] at hk
  have hd := done_1 (H := H) (b := s.b) (f := s.e)
  rw [ratchetref08_PutTag_eq]
  revert hd
  refine doneV_cases (fun t => run (C k_ratchetref08_writing_done [.ptr (List.length H) 0]) (hadd H [.cells [accB s.b, .int .i64 s.e]]) = some (.ok t (hadd H [doneB s.b s.e])) → _ = some (Out.ok t H)) ?_ ?_ <;> intro hd <;>
    simp (contextual := true) (dsimp := false) (disch := omega) only [↓goDown, goUp, List.length_cons, List.length_nil, List.map_cons, List.map_nil, List.take_succ_cons, List.take_zero, List.drop_succ_cons, List.drop_zero, List.drop_nil, List.take_nil, List.cons_append, List.nil_append, List.append_nil, List.set_cons_zero, List.set_cons_succ, List.all_cons, List.all_nil, ↓reduceIte, reduceCtorEq, ge_iff_le, gt_iff_lt, eq_self_iff_true, beq_self_eq_true, beq_iff_eq, bne_iff_ne, ne_eq, ite_not, Int.reduceEq, Option.getD_some, Option.getD_none, ite_self, Nat.reduceAdd, Nat.reduceSub, Nat.reduceMul, Nat.reduceLeDiff, Nat.reduceEqDiff, Nat.reduceBEq, Nat.reduceBNe, Int.reduceLT, Int.reduceLE, Int.reduceAdd, Int.reduceSub, Int.reduceMul, Int.reduceNeg, Int.reduceNe, Int.reduceBEq, Int.reduceBNe, Int.reduceToNat, bs0, bdO_own, bxO_own, hk, hd, isTup_B, low_B]
end Go.Proofs.Ytofbbijagbpicaa.Pi.Q
namespace Go.Proofs.Ytofbbijagbpicaa.Pi.Q
open Go Go.Proofs.Ytofbbijagbpicaa.Pi
set_option linter.unusedVariables false
set_option linter.unusedSimpArgs false
set_option maxRecDepth 100000
attribute [local congr] ite_congr
variable {c : Nat} {H : Heap} {L : List Box} {b : List UInt8} {f : Int}
def gBlock (v : BK) : GR :=
  if 0 ≤ v.ty then .ok () ⟨putS v.ty, (gMust (decide (v.res = ⟨0, false, 0⟩ ∧ v.ty < 2147483648)) 4 ⟨[], 0⟩).e⟩
  else if v.ty < -1 then .ok () (gMust false 4 ⟨[], 0⟩)
  else if v.res = ⟨0, false, 0⟩ then .ok () ⟨[64], 0⟩ else gVal false v.res ⟨[], 0⟩
theorem gput_block {v : BK} {s : WS} (h1 : v.res.heap ≤ 9223372036854775807) (h2 : v.ty ≤ 9223372036854775807) (hr : gBlock v = .ok () s) : run (C k_ratchetref08_PutBlockType [.agg [.int .i64 v.ty, .int .i64 v.res.num, .bool v.res.nul, .int .i64 v.res.heap]]) H = some (.ok (doneV s.b s.e) H) := by
  obtain ⟨ty, res⟩ := v
  simp only at h1 h2 ⊢
  have he := fun K => eql_V (H := K) (v := res) (n := 0)
  have hp0 : (.cells [accB [], .int .i64 0] : Box) = .cells [.slice false true 0 [], .int .i64 0] := rfl
  have hm := fun ok => use_2 (H := H) (x := .cells [.int .i64 ty, .int .i64 res.num, .bool res.nul, .int .i64 res.heap]) (m := C k_ratchetref08_writing_must [.ptr (List.length H + 1) 0, .bool ok, .int .i64 4]) (gmustK (L := []) (b := []) (f := 0) (ok := ok) (e := 4) new2) rfl
  rw [hp0] at hm
  have hps := fun (hh : 0 ≤ ty) K => rputS_is (H := K) (n := ty) (by omega) h2
  have hd := fun b f => done_2 (H := H) (x := .cells [.int .i64 ty, .int .i64 res.num, .bool res.nul, .int .i64 res.heap]) (b := b) (f := f)
  have hb0 : ∀ ok e, (gMust ok e ⟨[], 0⟩).b = [] := fun ok e => rfl
  have fin : ∀ b f, run (p_ratchetref08_PutBlockType_1111 (.slice false true 0 []) (.int .i64 0) (.ptr (List.length H + 1) 0)) (hadd H [.cells [.int .i64 ty, .int .i64 res.num, .bool res.nul, .int .i64 res.heap], .cells [accB b, .int .i64 f]]) = some (.ok (doneV b f) (hadd H [.cells [.int .i64 ty, .int .i64 res.num, .bool res.nul, .int .i64 res.heap], doneB b f])) := fun b f => by
    have hd := hd b f
    rw [p_ratchetref08_PutBlockType_1111_eq]
    revert hd
    refine doneV_cases (fun t => run (C k_ratchetref08_writing_done [.ptr (List.length H + 1) 0]) (hadd H [.cells [.int .i64 ty, .int .i64 res.num, .bool res.nul, .int .i64 res.heap], .cells [accB b, .int .i64 f]]) = some (.ok t (hadd H [.cells [.int .i64 ty, .int .i64 res.num, .bool res.nul, .int .i64 res.heap], doneB b f])) → _ = some (Out.ok t (hadd H [.cells [.int .i64 ty, .int .i64 res.num, .bool res.nul, .int .i64 res.heap], doneB b f]))) ?_ ?_ <;> intro hd <;>
      simp (contextual := true) (dsimp := false) (disch := omega) only [↓goDown, goUp, List.length_cons, List.length_nil, List.map_cons, List.map_nil, List.take_succ_cons, List.take_zero, List.drop_succ_cons, List.drop_zero, List.drop_nil, List.take_nil, List.cons_append, List.nil_append, List.append_nil, List.set_cons_zero, List.set_cons_succ, List.all_cons, List.all_nil, ↓reduceIte, reduceCtorEq, ge_iff_le, gt_iff_lt, eq_self_iff_true, beq_self_eq_true, beq_iff_eq, bne_iff_ne, ne_eq, ite_not, Int.reduceEq, Option.getD_some, Option.getD_none, ite_self, Nat.reduceAdd, Nat.reduceSub, Nat.reduceMul, Nat.reduceLeDiff, Nat.reduceEqDiff, Nat.reduceBEq, Nat.reduceBNe, Int.reduceLT, Int.reduceLE, Int.reduceAdd, Int.reduceSub, Int.reduceMul, Int.reduceNeg, Int.reduceNe, Int.reduceBEq, Int.reduceBNe, Int.reduceToNat, hd, isTup_B, low_B]
  have hlow : ∀ b f n, (doneV b f).low n = true := fun b f n => doneV_cases (fun t => t.low n = true) (by simp [low_tup, lowL_cons, lowL_nil, low_B, low_int]) (by simp [low_tup, lowL_cons, lowL_nil, low_slice, low_int])
  have hbs : ∀ K, bsR true none [.int .u8 64] K = some (.ok (accB [64]) K) := fun K => bs64
  rw [ratchetref08_PutBlockType_eq]
  unfold gBlock at hr
  simp only at hr
  by_cases h0 : 0 ≤ ty
  · rw [if_pos h0] at hr
    cases hr
    simp only
    by_cases hz : res = ⟨0, false, 0⟩
    · rw [decide_eq_true hz] at he
      have e1 : decide (res = ⟨0, false, 0⟩ ∧ ty < 2147483648) = decide (ty < 2147483648) := by simp [hz]
      rw [e1]
      simp (contextual := true) (dsimp := false) (disch := omega) only [↓goDown, goUp, List.length_cons, List.length_nil, List.map_cons, List.map_nil, List.take_succ_cons, List.take_zero, List.drop_succ_cons, List.drop_zero, List.drop_nil, List.take_nil, List.cons_append, List.nil_append, List.append_nil, List.set_cons_zero, List.set_cons_succ, List.all_cons, List.all_nil, ↓reduceIte, reduceCtorEq, ge_iff_le, gt_iff_lt, eq_self_iff_true, beq_self_eq_true, beq_iff_eq, bne_iff_ne, ne_eq, ite_not, Int.reduceEq, Option.getD_some, Option.getD_none, ite_self, Nat.reduceAdd, Nat.reduceSub, Nat.reduceMul, Nat.reduceLeDiff, Nat.reduceEqDiff, Nat.reduceBEq, Nat.reduceBNe, Int.reduceLT, Int.reduceLE, Int.reduceAdd, Int.reduceSub, Int.reduceMul, Int.reduceNeg, Int.reduceNe, Int.reduceBEq, Int.reduceBNe, Int.reduceToNat, eq_true h0, he, hm, hb0, hps h0, fin, hlow, isTup_B, low_B, cells_B, isCell_B]
    · rw [decide_eq_false hz] at he
      have e1 : decide (res = ⟨0, false, 0⟩ ∧ ty < 2147483648) = false := by simp [hz]
      rw [e1]
      simp (contextual := true) (dsimp := false) (disch := omega) only [↓goDown, goUp, List.length_cons, List.length_nil, List.map_cons, List.map_nil, List.take_succ_cons, List.take_zero, List.drop_succ_cons, List.drop_zero, List.drop_nil, List.take_nil, List.cons_append, List.nil_append, List.append_nil, List.set_cons_zero, List.set_cons_succ, List.all_cons, List.all_nil, ↓reduceIte, reduceCtorEq, ge_iff_le, gt_iff_lt, eq_self_iff_true, beq_self_eq_true, beq_iff_eq, bne_iff_ne, ne_eq, ite_not, Int.reduceEq, Option.getD_some, Option.getD_none, ite_self, Nat.reduceAdd, Nat.reduceSub, Nat.reduceMul, Nat.reduceLeDiff, Nat.reduceEqDiff, Nat.reduceBEq, Nat.reduceBNe, Int.reduceLT, Int.reduceLE, Int.reduceAdd, Int.reduceSub, Int.reduceMul, Int.reduceNeg, Int.reduceNe, Int.reduceBEq, Int.reduceBNe, Int.reduceToNat, eq_true h0, he, hm, hb0, hps h0, fin, hlow, isTup_B, low_B, cells_B, isCell_B]
  · rw [if_neg h0] at hr
    by_cases h3 : ty < -1
    · rw [if_pos h3] at hr
      cases hr
      cases hz : decide (res = ⟨0, false, 0⟩) <;> rw [hz] at he <;>
        simp (contextual := true) (dsimp := false) (disch := omega) only [↓goDown, goUp, List.length_cons, List.length_nil, List.map_cons, List.map_nil, List.take_succ_cons, List.take_zero, List.drop_succ_cons, List.drop_zero, List.drop_nil, List.take_nil, List.cons_append, List.nil_append, List.append_nil, List.set_cons_zero, List.set_cons_succ, List.all_cons, List.all_nil, ↓reduceIte, reduceCtorEq, ge_iff_le, gt_iff_lt, eq_self_iff_true, beq_self_eq_true, beq_iff_eq, bne_iff_ne, ne_eq, ite_not, Int.reduceEq, Option.getD_some, Option.getD_none, ite_self, Nat.reduceAdd, Nat.reduceSub, Nat.reduceMul, Nat.reduceLeDiff, Nat.reduceEqDiff, Nat.reduceBEq, Nat.reduceBNe, Int.reduceLT, Int.reduceLE, Int.reduceAdd, Int.reduceSub, Int.reduceMul, Int.reduceNeg, Int.reduceNe, Int.reduceBEq, Int.reduceBNe, Int.reduceToNat, h0, eq_true h3, he, hm, hb0, fin, hlow, isTup_B, low_B, cells_B, isCell_B]
    · rw [if_neg h3] at hr
      by_cases hz : res = ⟨0, false, 0⟩
      · rw [if_pos hz] at hr
        cases hr
        rw [decide_eq_true hz] at he
        simp (contextual := true) (dsimp := false) (disch := omega) only [↓goDown, goUp, List.length_cons, List.length_nil, List.map_cons, List.map_nil, List.take_succ_cons, List.take_zero, List.drop_succ_cons, List.drop_zero, List.drop_nil, List.take_nil, List.cons_append, List.nil_append, List.append_nil, List.set_cons_zero, List.set_cons_succ, List.all_cons, List.all_nil, ↓reduceIte, reduceCtorEq, ge_iff_le, gt_iff_lt, eq_self_iff_true, beq_self_eq_true, beq_iff_eq, bne_iff_ne, ne_eq, ite_not, Int.reduceEq, Option.getD_some, Option.getD_none, ite_self, Nat.reduceAdd, Nat.reduceSub, Nat.reduceMul, Nat.reduceLeDiff, Nat.reduceEqDiff, Nat.reduceBEq, Nat.reduceBNe, Int.reduceLT, Int.reduceLE, Int.reduceAdd, Int.reduceSub, Int.reduceMul, Int.reduceNeg, Int.reduceNe, Int.reduceBEq, Int.reduceBNe, Int.reduceToNat, h0, h3, he, hbs, fin, hlow, isTup_B, low_B, cells_B, isCell_B]
      · rw [if_neg hz] at hr
        rw [decide_eq_false hz] at he
        have hv := use_2 (H := H) (x := .cells [.int .i64 ty, .int .i64 res.num, .bool res.nul, .int .i64 res.heap]) (gvalK (L := []) (b := []) (f := 0) h1 new2) hr
        rw [hp0] at hv
        simp (contextual := true) (dsimp := false) (disch := omega) only [↓goDown, goUp, List.length_cons, List.length_nil, List.map_cons, List.map_nil, List.take_succ_cons, List.take_zero, List.drop_succ_cons, List.drop_zero, List.drop_nil, List.take_nil, List.cons_append, List.nil_append, List.append_nil, List.set_cons_zero, List.set_cons_succ, List.all_cons, List.all_nil, ↓reduceIte, reduceCtorEq, ge_iff_le, gt_iff_lt, eq_self_iff_true, beq_self_eq_true, beq_iff_eq, bne_iff_ne, ne_eq, ite_not, Int.reduceEq, Option.getD_some, Option.getD_none, ite_self, Nat.reduceAdd, Nat.reduceSub, Nat.reduceMul, Nat.reduceLeDiff, Nat.reduceEqDiff, Nat.reduceBEq, Nat.reduceBNe, Int.reduceLT, Int.reduceLE, Int.reduceAdd, Int.reduceSub, Int.reduceMul, Int.reduceNeg, Int.reduceNe, Int.reduceBEq, Int.reduceBNe, Int.reduceToNat, h0, h3, he, hv, fin, hlow, isTup_B, low_B, cells_B, isCell_B]
def gRec (v : RT) : GR :=
  if (v.types.length : Int) = 1 then gAll gSub v.types ⟨[], 0⟩
  else (gPut [78] ⟨[], 0⟩).bind fun _ s => (gMany v.types.length 10000 s).bind fun _ s => gAll gSub v.types s
def RT.wide (v : RT) : Prop := ∀ t ∈ v.types, t.wide
theorem low_doneV {n : Nat} : (doneV b f).low n = true := doneV_cases (fun t => t.low n = true) (by simp [low_tup, lowL_cons, lowL_nil, low_B, low_int]) (by simp [low_tup, lowL_cons, lowL_nil, low_slice, low_int])
theorem grec_end {j : Nat} {v2 v3 : PV} {n : Int} {z : Bool} {l : List SG} {e : Bool} {i : Int} (hj : hget H j = some (.cells [LZ z 6 (l.map encSG), .bool e])) (hjc : j < c) (hc : c < List.length H) (hi : ¬ i < l.length) :
    runK c (p_ratchetref08_PutRecType_111010 (.ptr j 0) v2 v3 (.ptr c 0) (.int .i64 i)) (St H c (.cells [accB b, .int .i64 f]) []) = some (.ok (doneV b f) (St H c (doneB b f) [])) := by
  have hg := fun a L => get_j hj hjc hc (a := a) (L := L)
  have hd := done_at (L := []) (b := b) (f := f) hc
  have ci : ¬ (i : Int) < l.length := hi
  rw [p_ratchetref08_PutRecType_111010_eq]
  revert hd
  refine doneV_cases (fun t => run (C k_ratchetref08_writing_done [.ptr c 0]) (St H c (.cells [accB b, .int .i64 f]) []) = some (.ok t (St H c (doneB b f) [])) → _ = some (Out.ok t (St H c (doneB b f) []))) ?_ ?_ <;> intro hd <;>
    simp (contextual := true) (dsimp := false) (disch := omega) only [↓kDown, kUp, ↓goDown, goUp, List.length_cons, List.length_nil, List.map_cons, List.map_nil, List.take_succ_cons, List.take_zero, List.drop_succ_cons, List.drop_zero, List.drop_nil, List.take_nil, List.cons_append, List.nil_append, List.append_nil, List.set_cons_zero, List.set_cons_succ, List.all_cons, List.all_nil, ↓reduceIte, reduceCtorEq, ge_iff_le, gt_iff_lt, eq_self_iff_true, beq_self_eq_true, beq_iff_eq, bne_iff_ne, ne_eq, ite_not, Int.reduceEq, Option.getD_some, Option.getD_none, ite_self, Nat.reduceAdd, Nat.reduceSub, Nat.reduceMul, Nat.reduceLeDiff, Nat.reduceEqDiff, Nat.reduceBEq, Nat.reduceBNe, Int.reduceLT, Int.reduceLE, Int.reduceAdd, Int.reduceSub, Int.reduceMul, Int.reduceNeg, Int.reduceNe, Int.reduceBEq, Int.reduceBNe, Int.reduceToNat, hg, ln_Z, stripC_Z, List.length_map, ci, toK (m := C k_ratchetref08_writing_done [.ptr c 0]), hd, isTup_B, low_B]
theorem grec_loop {j : Nat} {v2 v3 : PV} {z : Bool} {l : List SG} {e : Bool} (hl : l.length < 2 ^ 62) (hf : ∀ t ∈ l, t.plain.fit) (hw : ∀ t ∈ l, t.plain.wide) (hj : hget H j = some (.cells [LZ z 6 (l.map encSG), .bool e])) (hjc : j < c) (hc : c < List.length H) : ∀ (m i : Nat) (b : List UInt8) (f : Int), i + m = l.length →
    runK c (p_ratchetref08_PutRecType_111010 (.ptr j 0) v2 v3 (.ptr c 0) (.int .i64 i)) (St H c (.cells [accB b, .int .i64 f]) []) = elimK c H [] (gAll (fun v => gSub v.plain) (l.drop i) ⟨b, f⟩) fun _ s => some (.ok (doneV s.b s.e) (St H c (doneB s.b s.e) []))
  | 0, i, b, f, hi => by
    have e0 : l.drop i = [] := List.drop_eq_nil_of_le (by omega)
    rw [e0, grec_end (n := 0) hj hjc hc (by omega)]
    rfl
  | m + 1, i, b, f, hi => by
    have hg := fun a L => get_j hj hjc hc (a := a) (L := L)
    have c1 : (i : Int) < l.length := by omega
    have hil : i < l.length := by omega
    have hia : ∀ K, run (iaS 6 (LZ z 6 (l.map encSG)) (.int .i64 i)) K = some (.ok (.elem [.bool l[i].fin, LZ l[i].sup.z 1 (l[i].sup.l.map encI), .int .i64 l[i].comp.kind, LZ l[i].comp.ps.z 3 (l[i].comp.ps.l.map encV), LZ l[i].comp.rs.z 3 (l[i].comp.rs.l.map encV), LZ l[i].comp.fs.z 4 (l[i].comp.fs.l.map encF)]) K) := fun K => (ia_Z (x := encSG l[i]) (by simp [hil])).trans rfl
    have hd : l.drop i = l[i] :: l.drop (i + 1) := List.drop_eq_getElem_cons hil
    have e1 : ((i : Int) + 1) = ((i + 1 : Nat) : Int) := rfl
    have h1 := fun L b f => gsubK (c := c) (H := H) (L := L) (b := b) (f := f) (v := l[i]) (hf _ (List.getElem_mem hil)) (hw _ (List.getElem_mem hil)) hc
    have ih := fun b f => grec_loop (v2 := v2) (v3 := v3) hl hf hw hj hjc hc m (i + 1) b f (by omega)
    rw [hd, p_ratchetref08_PutRecType_111010_eq]
    simp only [gAll]
    simp (contextual := true) (dsimp := false) (disch := omega) only [↓kDown, kUp, ↓goDown, goUp, List.length_cons, List.length_nil, List.map_cons, List.map_nil, List.take_succ_cons, List.take_zero, List.drop_succ_cons, List.drop_zero, List.drop_nil, List.take_nil, List.cons_append, List.nil_append, List.append_nil, List.set_cons_zero, List.set_cons_succ, List.all_cons, List.all_nil, ↓reduceIte, reduceCtorEq, ge_iff_le, gt_iff_lt, eq_self_iff_true, beq_self_eq_true, beq_iff_eq, bne_iff_ne, ne_eq, ite_not, Int.reduceEq, Option.getD_some, Option.getD_none, ite_self, Nat.reduceAdd, Nat.reduceSub, Nat.reduceMul, Nat.reduceLeDiff, Nat.reduceEqDiff, Nat.reduceBEq, Nat.reduceBNe, Int.reduceLT, Int.reduceLE, Int.reduceAdd, Int.reduceSub, Int.reduceMul, Int.reduceNeg, Int.reduceNe, Int.reduceBEq, Int.reduceBNe, Int.reduceToNat, hg, c1, ln_Z, stripC_Z, List.length_map, strip_Z, hia, h1, e1, ih, encU_is, WS.eta]
theorem gAll_map {α β : Type} {k : β → WS → GR} {g : α → β} : ∀ (l : List α) (s : WS), gAll (fun a => k (g a)) l s = gAll k (l.map g) s
  | [], s => rfl
  | a :: l, s => by
    simp only [gAll, List.map_cons]
    congr 1
    funext _ s
    exact gAll_map l s
theorem gput_rec {v : RG} {s : WS} (hv : v.fit) (hw : v.plain.wide) (hr : gRec v.plain = .ok () s) : run (C k_ratchetref08_PutRecType [encRG v]) H = some (.ok (doneV s.b s.e) H) := by
  obtain ⟨⟨z, l⟩, e⟩ := v
  obtain ⟨a1, a2⟩ := hv
  simp only at a1 a2
  have hww : ∀ t ∈ l, t.plain.wide := fun t ht => hw t.plain (by simp only [RG.plain, List.mem_map]; exact ⟨t, ht, rfl⟩)
  have hj : hget (hadd H [.cells [LZ z 6 (l.map encSG), .bool e], .dead]) (List.length H) = some (.cells [LZ z 6 (l.map encSG), .bool e]) := by rw [get_loc0]; rfl
  have hlp := fun b f => grec_loop (v2 := .slice false true 0 []) (v3 := .int .i64 0) (z := z) (e := e) a1 a2 hww hj (by omega : List.length H < List.length H + 1) new2 l.length 0 b f (by omega)
  have hlp : ∀ b f, runK (List.length H + 1) (p_ratchetref08_PutRecType_111010 (.ptr H.length 0) (.slice false true 0 []) (.int .i64 0) (.ptr (H.length + 1) 0) (.int .i64 0)) (St (hadd H [.cells [LZ z 6 (l.map encSG), .bool e], .dead]) (List.length H + 1) (.cells [accB b, .int .i64 f]) []) = elimK (List.length H + 1) (hadd H [.cells [LZ z 6 (l.map encSG), .bool e], .dead]) [] (gAll gSub (l.map SG.plain) ⟨b, f⟩) fun _ s => some (.ok (doneV s.b s.e) (St (hadd H [.cells [LZ z 6 (l.map encSG), .bool e], .dead]) (List.length H + 1) (doneB s.b s.e) [])) := fun b f => by
    rw [← gAll_map]
    exact hlp b f
  have hp0 : (.cells [accB [], .int .i64 0] : Box) = .cells [.slice false true 0 [], .int .i64 0] := rfl
  have use : ∀ b f, gAll gSub (l.map SG.plain) ⟨b, f⟩ = .ok () s → run (p_ratchetref08_PutRecType_111010 (.ptr H.length 0) (.slice false true 0 []) (.int .i64 0) (.ptr (H.length + 1) 0) (.int .i64 0)) (hadd H [.cells [LZ z 6 (l.map encSG), .bool e], .cells [accB b, .int .i64 f]]) = some (.ok (doneV s.b s.e) (hadd H [.cells [LZ z 6 (l.map encSG), .bool e], doneB s.b s.e])) := fun b f h => by
    have := hlp b f
    rw [h, elimK_ok, ← St_2, ← St_2] at this
    exact run_of_ok this
  rw [ratchetref08_PutRecType_eq]
  unfold gRec at hr
  simp only [RG.plain, List.length_map] at hr
  unfold encRG
  by_cases h1 : (l.length : Int) = 1
  · rw [if_pos h1] at hr
    have hu := use _ _ hr
    rw [hp0] at hu
    simp (contextual := true) (dsimp := false) (disch := omega) only [↓goDown, goUp, List.length_cons, List.length_nil, List.map_cons, List.map_nil, List.take_succ_cons, List.take_zero, List.drop_succ_cons, List.drop_zero, List.drop_nil, List.take_nil, List.cons_append, List.nil_append, List.append_nil, List.set_cons_zero, List.set_cons_succ, List.all_cons, List.all_nil, ↓reduceIte, reduceCtorEq, ge_iff_le, gt_iff_lt, eq_self_iff_true, beq_self_eq_true, beq_iff_eq, bne_iff_ne, ne_eq, ite_not, Int.reduceEq, Option.getD_some, Option.getD_none, ite_self, Nat.reduceAdd, Nat.reduceSub, Nat.reduceMul, Nat.reduceLeDiff, Nat.reduceEqDiff, Nat.reduceBEq, Nat.reduceBNe, Int.reduceLT, Int.reduceLE, Int.reduceAdd, Int.reduceSub, Int.reduceMul, Int.reduceNeg, Int.reduceNe, Int.reduceBEq, Int.reduceBNe, Int.reduceToNat, ln_Z, cells_Z, isCell_Z, low_Z, stripC_Z, isTup_Z, strip_Z, List.length_map, h1, p_ratchetref08_PutRecType_111_eq, hu, low_doneV, bne_self_eq_false]
  · rw [if_neg h1] at hr
    unfold gPut at hr
    simp only [List.length_nil, List.length_cons, List.nil_append] at hr
    cases hm : gMany (l.length : Int) 10000 ⟨[78], 0⟩ with
    | ok u s1 =>
      have hr2 : gAll gSub (l.map SG.plain) s1 = .ok () s := by
        simpa [Res.bind, hm] using hr
      have hu := use s1.b s1.e hr2
      have hmk := use_2 (H := H) (x := .cells [LZ z 6 (l.map encSG), .bool e]) (gmanyK (L := []) (b := [78]) (f := 0) (n := (l.length : Int)) (most := 10000) (by omega) (by omega) new2) hm
      have e78 : ∀ K, run (ap true 1 1 (.slice false true 0 []) (.slice true false 1 [byt 78])) K = some (.ok (accB [78]) K) := fun K => (ap_X1 (acc := []) (c := 78)).trans rfl
      have c1 : ((l.length : Int) != 1) = true := by simpa using h1
      simp (contextual := true) (dsimp := false) (disch := omega) only [↓goDown, goUp, List.length_cons, List.length_nil, List.map_cons, List.map_nil, List.take_succ_cons, List.take_zero, List.drop_succ_cons, List.drop_zero, List.drop_nil, List.take_nil, List.cons_append, List.nil_append, List.append_nil, List.set_cons_zero, List.set_cons_succ, List.all_cons, List.all_nil, ↓reduceIte, reduceCtorEq, ge_iff_le, gt_iff_lt, eq_self_iff_true, beq_self_eq_true, beq_iff_eq, bne_iff_ne, ne_eq, ite_not, Int.reduceEq, Option.getD_some, Option.getD_none, ite_self, Nat.reduceAdd, Nat.reduceSub, Nat.reduceMul, Nat.reduceLeDiff, Nat.reduceEqDiff, Nat.reduceBEq, Nat.reduceBNe, Int.reduceLT, Int.reduceLE, Int.reduceAdd, Int.reduceSub, Int.reduceMul, Int.reduceNeg, Int.reduceNe, Int.reduceBEq, Int.reduceBNe, Int.reduceToNat, ln_Z, cells_Z, isCell_Z, low_Z, stripC_Z, isTup_Z, strip_Z, List.length_map, c1, h1, bs78, e78, hmk, isCell_B, cells_B, low_B, p_ratchetref08_PutRecType_111_eq, hu, low_doneV]
    | err t w => simp [Res.bind, hm] at hr
    | no => simp [Res.bind, hm] at hr
end Go.Proofs.Ytofbbijagbpicaa.Pi.Q
namespace Go.Proofs.Ytofbbijagbpicaa.Pi.Q
open Go Go.Proofs.Ytofbbijagbpicaa.Pi
set_option linter.unusedVariables false
set_option linter.unusedSimpArgs false
def Sim (n : Nat) (k : List UInt8 → KR) (g : WS → GR) : Prop :=
  (∀ acc, acc.length + n ≤ 140737488355328 →
    (∃ a, a.length ≤ acc.length + n ∧ k acc = .ok () a ∧ g ⟨acc, 0⟩ = .ok () ⟨a, 0⟩) ∨ (∃ e b, e ≠ 0 ∧ b.length ≤ acc.length + n ∧ k acc = .err y_entry_fault [0, e] ∧ g ⟨acc, 0⟩ = .ok () ⟨b, e⟩)) ∧
  ∀ acc e, e ≠ 0 → acc.length + n ≤ 140737488355328 → ∃ b, b.length ≤ acc.length + n ∧ g ⟨acc, e⟩ = .ok () ⟨b, e⟩
theorem Sim.mono {n m : Nat} {k : List UInt8 → KR} {g : WS → GR} (h : Sim n k g) (hnm : n ≤ m) : Sim m k g := by
  refine ⟨fun acc ha => ?_, fun acc e he ha => ?_⟩
  · rcases h.1 acc (by omega) with ⟨a, h1, h2⟩ | ⟨e, b, h1, h2, h3⟩
    · exact .inl ⟨a, by omega, h2⟩
    · exact .inr ⟨e, b, h1, by omega, h3⟩
  · obtain ⟨b, h1, h2⟩ := h.2 acc e he (by omega)
    exact ⟨b, by omega, h2⟩
theorem Sim.bind {n m : Nat} {k k' : List UInt8 → KR} {g g' : WS → GR} (h : Sim n k g) (h' : Sim m k' g') : Sim (n + m) (fun acc => (k acc).bind fun _ acc => k' acc) (fun s => (g s).bind fun _ s => g' s) := by
  refine ⟨fun acc ha => ?_, fun acc e he ha => ?_⟩
  · rcases h.1 acc (by omega) with ⟨a, h1, h2, h3⟩ | ⟨e, b, h1, h2, h3, h4⟩
    · simp only [h2, h3, Res.bind]
      rcases h'.1 a (by omega) with ⟨a', q1, q2⟩ | ⟨e, b, q1, q2, q3⟩
      · exact .inl ⟨a', by omega, q2⟩
      · exact .inr ⟨e, b, q1, by omega, q3⟩
    · simp only [h3, h4, Res.bind]
      obtain ⟨b', q1, q2⟩ := h'.2 b e h1 (by omega)
      exact .inr ⟨e, b', h1, by omega, rfl, q2⟩
  · obtain ⟨b, h1, h2⟩ := h.2 acc e he (by omega)
    simp only [h2, Res.bind]
    obtain ⟨b', q1, q2⟩ := h'.2 b e he (by omega)
    exact ⟨b', by omega, q2⟩
theorem sim_put {u : List UInt8} {n : Nat} (h : u.length ≤ n) : Sim n (kPut u) (gPut u) := by
  refine ⟨fun acc ha => .inl ⟨acc ++ u, by simp; omega, ?_, ?_⟩, fun acc e he ha => ⟨acc ++ u, by simp; omega, ?_⟩⟩
  · exact if_pos (by omega)
  · exact if_pos (show acc.length + u.length ≤ _ by omega)
  · exact if_pos (show acc.length + u.length ≤ _ by omega)
theorem sim_must {b c : Bool} {e : Int} (he : e ≠ 0) (hbc : b = c) : Sim 0 (fun acc => if b = true then .ok () acc else .err y_entry_fault [0, e]) (fun s => .ok () (gMust c e s)) := by
  subst hbc
  refine ⟨fun acc ha => ?_, fun acc f hf ha => ⟨acc, by omega, ?_⟩⟩
  · cases b
    · exact .inr ⟨e, acc, he, by omega, rfl, by simp [gMust]⟩
    · exact .inl ⟨acc, by omega, rfl, by simp [gMust]⟩
  · simp [gMust, hf]
theorem sim_err {n : Nat} {e : Int} {g : WS → GR} (he : e ≠ 0) (h : ∀ acc, acc.length + n ≤ 140737488355328 → ∃ b, b.length ≤ acc.length + n ∧ g ⟨acc, 0⟩ = .ok () ⟨b, e⟩) (h2 : ∀ acc f, f ≠ 0 → acc.length + n ≤ 140737488355328 → ∃ b, b.length ≤ acc.length + n ∧ g ⟨acc, f⟩ = .ok () ⟨b, f⟩) : Sim n (fun _ => .err y_entry_fault [0, e]) g :=
  ⟨fun acc ha => by obtain ⟨b, h3, h4⟩ := h acc ha; exact .inr ⟨e, b, he, h3, rfl, h4⟩, h2⟩
def Runs (n : Nat) (g : WS → GR) : Prop := ∀ acc e, acc.length + n ≤ 140737488355328 → e ≠ 0 → ∃ b, b.length ≤ acc.length + n ∧ g ⟨acc, e⟩ = .ok () ⟨b, e⟩
theorem Sim.runs {n : Nat} {k : List UInt8 → KR} {g : WS → GR} (h : Sim n k g) : Runs n g := fun acc e ha he => h.2 acc e he ha
theorem Runs.mono {n m : Nat} {g : WS → GR} (h : Runs n g) (hnm : n ≤ m) : Runs m g := fun acc e ha he => by
  obtain ⟨b, h1, h2⟩ := h acc e (by omega) he
  exact ⟨b, by omega, h2⟩
theorem sim_fail {n : Nat} {e : Int} {g : WS → GR} (he : e ≠ 0) (hg : Runs n g) : Sim n (fun _ => .err y_entry_fault [0, e]) (fun s => g (gMust false e s)) := by
  refine sim_err he (fun acc ha => ?_) (fun acc f hf ha => ?_)
  · have : gMust false e ⟨acc, 0⟩ = ⟨acc, e⟩ := by simp [gMust]
    rw [this]
    exact hg acc e ha he
  · have : gMust false e ⟨acc, f⟩ = ⟨acc, f⟩ := by simp [gMust, hf]
    rw [this]
    exact hg acc f ha hf
theorem runs_put {u : List UInt8} {n : Nat} (h : u.length ≤ n) : Runs n (gPut u) := (sim_put h).runs
theorem sim_congr {n : Nat} {k k' : List UInt8 → KR} {g g' : WS → GR} (h : Sim n k g) (hk : ∀ acc, k' acc = k acc) (hg : ∀ s, g' s = g s) : Sim n k' g' := by
  have e1 : k' = k := funext hk
  have e2 : g' = g := funext hg
  rw [e1, e2]
  exact h
theorem index_sim {n : Int} (hn : n ≤ 9223372036854775807) : Sim 10 (kIndex n) (gIndex n) := by
  by_cases h0 : 0 ≤ n
  · have hten : (putU n.toNat).length ≤ 10 := putU_ten (by omega)
    by_cases h1 : n ≤ 2147483647
    · refine sim_congr (sim_put (u := putU n.toNat) hten) (fun acc => ?_) (fun s => ?_)
      · unfold kIndex; rw [if_pos ⟨h0, h1⟩]
      · unfold gIndex
        rw [if_pos h0, decide_eq_true (show n < 2147483648 by omega)]
        have : gMust true 4 s = s := by simp [gMust]
        rw [this]
    · refine sim_congr (sim_fail (e := 4) (by decide) (runs_put (u := putU n.toNat) hten)) (fun acc => ?_) (fun s => ?_)
      · unfold kIndex; rw [if_neg (fun h => h1 h.2)]
      · unfold gIndex
        rw [if_pos h0, decide_eq_false (show ¬ n < 2147483648 by omega)]
  · refine sim_congr (sim_fail (n := 10) (e := 4) (g := fun s => .ok () s) (by decide) (fun acc e ha he => ⟨acc, by omega, rfl⟩)) (fun acc => ?_) (fun s => ?_)
    · unfold kIndex; rw [if_neg (fun h => h0 h.1)]
    · unfold gIndex; rw [if_neg h0]
theorem find_range {h : Int} : ∀ (l : List Int) (i j : Nat), find h l i = some j → h ∈ l
  | [], i, j, e => by cases e
  | a :: r, i, j, e => by
    unfold find at e
    split at e
    · rename_i ha; rw [ha]; simp
    · exact List.mem_cons_of_mem _ (find_range r (i + 1) j e)
theorem find_none {h : Int} (hh : h < 0) (h2 : -12 ≤ h) : ∃ j, find h absI 0 = some j ∧ j < 12 := by
  have : h = -11 ∨ h = -9 ∨ h = -8 ∨ h = -7 ∨ h = -6 ∨ h = -5 ∨ h = -3 ∨ h = -1 ∨ h = -10 ∨ h = -4 ∨ h = -2 ∨ h = -12 := by omega
  rcases this with rfl | rfl | rfl | rfl | rfl | rfl | rfl | rfl | rfl | rfl | rfl | rfl <;> exact ⟨_, rfl, by decide⟩
theorem heap_sim {h : Int} (h1 : -9223372036854775808 ≤ h) (h2 : h ≤ 9223372036854775807) : Sim 10 (kHeap h) (gHeap h) := by
  by_cases h0 : h < 0
  · by_cases h3 : -12 ≤ h
    · obtain ⟨j, hj, hj12⟩ := find_none h0 h3
      refine sim_congr (sim_put (u := [UInt8.ofNat (105 + j)]) (n := 10) (by simp)) (fun acc => ?_) (fun s => ?_)
      · unfold kHeap; rw [if_neg (by omega), hj]; rfl
      · unfold gHeap
        rw [if_pos h0, decide_eq_true h3]
        have : gMust true 4 s = s := by simp [gMust]
        rw [this]
        unfold codeN
        rw [hj]
    · refine sim_congr (sim_fail (e := 4) (by decide) (runs_put (u := [UInt8.ofNat (codeN h)]) (n := 10) (by simp))) (fun acc => ?_) (fun s => ?_)
      · unfold kHeap
        rw [if_neg (by omega)]
        have : find h absI 0 = none := by
          cases hf : find h absI 0 with
          | none => rfl
          | some j =>
            have := find_range _ _ _ hf
            simp [absI] at this
            omega
        rw [this]
        rfl
      · unfold gHeap
        rw [if_pos h0, decide_eq_false h3]
  · have hten : (putS h).length ≤ 10 := putS_len 9 h (by omega) (by omega)
    by_cases h3 : h ≤ 2147483647
    · refine sim_congr (sim_put (u := putS h) hten) (fun acc => ?_) (fun s => ?_)
      · unfold kHeap; rw [if_pos (by omega), if_pos h3]
      · unfold gHeap
        rw [if_neg h0, decide_eq_true (show h < 2147483648 by omega)]
        have : gMust true 4 s = s := by simp [gMust]
        rw [this]
    · refine sim_congr (sim_fail (e := 4) (by decide) (runs_put (u := putS h) hten)) (fun acc => ?_) (fun s => ?_)
      · unfold kHeap; rw [if_pos (by omega), if_neg h3]
      · unfold gHeap
        rw [if_neg h0, decide_eq_false (show ¬ h < 2147483648 by omega)]
def I64 (n : Int) : Prop := -9223372036854775808 ≤ n ∧ n ≤ 9223372036854775807
theorem must_true {e : Int} {s : WS} : gMust true e s = s := by simp [gMust]
theorem val_sim {v : VT} (h1 : I64 v.heap) : Sim 11 (kVal v) (gVal false v) := by
  have hh := heap_sim h1.1 h1.2
  by_cases h5 : v.num = 5
  · cases hn : v.nul with
    | true =>
      by_cases h0 : v.heap < 0
      · refine sim_congr (hh.mono (by omega)) (fun acc => ?_) (fun s => ?_)
        · unfold kVal; rw [if_pos h5, if_neg (by simp [hn]), if_neg (by omega)]; rfl
        · unfold gVal; rw [if_pos h5, if_pos hn, if_pos h0]
      · refine sim_congr (Sim.bind (sim_put (u := [99]) (n := 1) (by simp)) hh) (fun acc => ?_) (fun s => ?_)
        · unfold kVal; rw [if_pos h5, if_neg (by simp [hn]), if_pos (by omega)]
        · unfold gVal; rw [if_pos h5, if_pos hn, if_neg h0]
    | false =>
      refine sim_congr (Sim.bind (sim_put (u := [100]) (n := 1) (by simp)) hh) (fun acc => ?_) (fun s => ?_)
      · unfold kVal; rw [if_pos h5, if_pos hn]
      · unfold gVal; rw [if_pos h5, if_neg (by simp [hn])]
  · by_cases hc : 1 ≤ v.num ∧ v.num ≤ 4 ∧ v.nul = false ∧ v.heap = 0
    · obtain ⟨c1, c2, c3, c4⟩ := hc
      refine sim_congr (sim_put (u := [UInt8.ofNat (128 - v.num).toNat]) (n := 11) (by simp)) (fun acc => ?_) (fun s => ?_)
      · unfold kVal; rw [if_neg h5, if_pos ⟨c1, c2, c3, c4⟩]
      · unfold gVal
        have e1 : gValOk false v = true := by unfold gValOk; exact decide_eq_true ⟨.inl ⟨c1, c2⟩, c3, c4⟩
        have e2 : gByte v.num = UInt8.ofNat (128 - v.num).toNat := by
          unfold gByte
          rw [if_neg (by omega), if_neg (by omega), w_i64 (by omega), w_u8 (by omega)]
        rw [if_neg h5, e1, must_true, e2]
    · refine sim_congr (sim_fail (e := 4) (by decide) (runs_put (u := [gByte v.num]) (n := 11) (by simp))) (fun acc => ?_) (fun s => ?_)
      · unfold kVal; rw [if_neg h5, if_neg hc]
      · unfold gVal
        have e1 : gValOk false v = false := by
          unfold gValOk
          refine decide_eq_false (fun h => hc ?_)
          obtain ⟨h | h, h3, h4⟩ := h
          · exact ⟨h.1, h.2, h3, h4⟩
          · cases h.1
        rw [if_neg h5, e1]
theorem flag_sim {t : Bool} : Sim 1 (kPut [if t then 1 else 0]) (gFlag t) := sim_put (by simp)
theorem VT.eq_of {v : VT} {n : Int} (h1 : v.num = n) (h2 : v.nul = false) (h3 : v.heap = 0) : v = ⟨n, false, 0⟩ := by
  cases v
  simp_all
theorem field_sim {v : FT} (h1 : I64 v.ty.heap) : Sim 12 (kField v) (gField v) := by
  have key : ∀ {k g}, Sim 11 k g → (∀ acc, kField v acc = ((k acc).bind fun _ acc => kPut [if v.mu then 1 else 0] acc)) → (∀ s, gVal true v.ty s = g s) → Sim 12 (kField v) (gField v) := fun h hk hg =>
    sim_congr (Sim.bind h (flag_sim (t := v.mu))) hk (fun s => by unfold gField; rw [hg])
  have put1 : ∀ n x, v.ty = ⟨n, false, 0⟩ → (n = 6 ∧ x = 120) ∨ (n = 7 ∧ x = 119) → ∀ s, gVal true v.ty s = gPut [x] s := fun n x he hx s => by
    unfold gVal
    rw [he]
    have e1 : gValOk true ⟨n, false, 0⟩ = true := by
      unfold gValOk
      refine decide_eq_true ⟨.inr ⟨rfl, ?_⟩, rfl, rfl⟩
      rcases hx with h | h
      · exact .inl h.1
      · exact .inr h.1
    simp only
    rw [if_neg (by omega), e1, must_true]
    rcases hx with ⟨rfl, rfl⟩ | ⟨rfl, rfl⟩ <;> rfl
  by_cases h6 : v.ty = ⟨6, false, 0⟩
  · exact key (sim_put (u := [120]) (n := 11) (by simp)) (fun acc => by unfold kField; rw [if_pos h6]) (put1 6 120 h6 (.inl ⟨rfl, rfl⟩))
  · by_cases h7 : v.ty = ⟨7, false, 0⟩
    · exact key (sim_put (u := [119]) (n := 11) (by simp)) (fun acc => by unfold kField; rw [if_neg h6, if_pos h7]) (put1 7 119 h7 (.inr ⟨rfl, rfl⟩))
    · refine key (k := kVal v.ty) (g := gVal true v.ty) ?_ (fun acc => by unfold kField; rw [if_neg h6, if_neg h7]) (fun s => rfl)
      refine sim_congr (val_sim h1) (fun acc => rfl) (fun s => ?_)
      unfold gVal
      by_cases h5 : v.ty.num = 5
      · rw [if_pos h5, if_pos h5]
      · rw [if_neg h5, if_neg h5]
        have e1 : gValOk true v.ty = gValOk false v.ty := by
          unfold gValOk
          rw [decide_eq_decide]
          constructor
          · rintro ⟨h | ⟨_, h | h⟩, h3, h4⟩
            · exact ⟨.inl h, h3, h4⟩
            · exact absurd (VT.eq_of h h3 h4) h6
            · exact absurd (VT.eq_of h h3 h4) h7
          · rintro ⟨h | h, h3, h4⟩
            · exact ⟨.inl h, h3, h4⟩
            · cases h.1
        rw [e1]
theorem all_sim {α : Type} {n : Nat} {k : α → List UInt8 → KR} {g : α → WS → GR} : ∀ (l : List α), (∀ v ∈ l, Sim n (k v) (g v)) → Sim (n * l.length) (kAll k l) (gAll g l)
  | [], h => ⟨fun acc ha => .inl ⟨acc, by simp, rfl, rfl⟩, fun acc e he ha => ⟨acc, by simp, rfl⟩⟩
  | v :: l, h => by
    have := Sim.bind (h v (by simp)) (all_sim l (fun u hu => h u (by simp [hu])))
    refine (sim_congr this (fun acc => rfl) (fun s => rfl)).mono ?_
    rw [List.length_cons, Nat.mul_add, Nat.mul_one]
    omega
theorem each_sim {α : Type} {n most : Nat} {k : α → List UInt8 → KR} {g : α → WS → GR} {l : List α} (hl : l.length < 2 ^ 62) (h : ∀ v ∈ l, Sim n (k v) (g v)) : Sim (10 + n * l.length) (kEach most k l) (fun s => (gMany l.length most s).bind fun _ s => gAll g l s) := by
  have hten : (putU l.length).length ≤ 10 := putU_ten (by omega)
  have ha := all_sim l h
  by_cases hm : most < l.length
  · refine sim_congr (sim_fail (e := 2) (g := fun s => (gPut (putU l.length) s).bind fun _ s => gAll g l s) (by decide) (Sim.bind (sim_put hten) ha).runs) (fun acc => ?_) (fun s => ?_)
    · unfold kEach; rw [if_pos hm]
    · unfold gMany
      rw [decide_eq_false (by omega), Int.toNat_natCast]
  · refine sim_congr (Sim.bind (sim_put hten) ha) (fun acc => ?_) (fun s => ?_)
    · unfold kEach; rw [if_neg hm]
    · unfold gMany
      rw [decide_eq_true (by omega), must_true, Int.toNat_natCast]
theorem each_runs {α : Type} {n : Nat} {k : α → List UInt8 → KR} {g : α → WS → GR} {l : List α} (h : ∀ v ∈ l, Sim n (k v) (g v)) : Runs (n * l.length) (gAll g l) := (all_sim l h).runs
def CT.w (v : CT) : Prop := (∀ a ∈ v.ps, I64 a.heap) ∧ (∀ a ∈ v.rs, I64 a.heap) ∧ ∀ a ∈ v.fs, I64 a.ty.heap
def nComp (v : CT) : Nat := 40 + 11 * v.ps.length + 11 * v.rs.length + 12 * v.fs.length
theorem Runs.bind {n m : Nat} {g g' : WS → GR} (h : Runs n g) (h' : Runs m g') : Runs (n + m) (fun s => (g s).bind fun _ s => g' s) := fun acc e ha he => by
  obtain ⟨b, h1, h2⟩ := h acc e (by omega) he
  simp only [h2, Res.bind]
  obtain ⟨b', q1, q2⟩ := h' b e (by omega) he
  exact ⟨b', by omega, q2⟩
theorem comp_sim {v : CT} (hf : v.fit) (hw : v.w) : Sim (nComp v) (kComp v) (gComp v) := by
  obtain ⟨kind, ps, rs, fs⟩ := v
  obtain ⟨f1, f2, f3⟩ := hf
  obtain ⟨w1, w2, w3⟩ := hw
  simp only at f1 f2 f3 w1 w2 w3
  have hps : Sim (10 + 11 * ps.length) (kVals ps) (gVals ps) := each_sim f1 (fun v hv => val_sim (w1 v hv))
  have hrs : Sim (10 + 11 * rs.length) (kVals rs) (gVals rs) := each_sim f2 (fun v hv => val_sim (w2 v hv))
  have hfs : Sim (10 + 12 * fs.length) (kEach 10000 kField fs) (fun s => (gMany fs.length 10000 s).bind fun _ s => gAll gField fs s) := each_sim f3 (fun v hv => field_sim (w3 v hv))
  have rfs : Runs (12 * fs.length) (gAll gField fs) := each_runs (k := kField) (fun v hv => field_sim (w3 v hv))
  unfold nComp
  simp only
  by_cases h1 : kind = 1
  · subst h1
    by_cases h0 : (fs.length : Int) = 0
    · refine (sim_congr (Sim.bind (sim_put (u := [96]) (n := 1) (by simp)) (Sim.bind hps hrs)) (fun acc => ?_) (fun s => ?_)).mono (by omega)
      · have e0 : ((fs.length : Int) == 0) = true := by simpa using h0
        unfold kComp
        simp only [e0]
        rfl
      · have e0 : ((fs.length : Int) == 0) = true := by simpa using h0
        unfold gComp
        simp only [e0, must_true, if_true]
    · refine (sim_congr (sim_fail (e := 4) (by decide) (Runs.bind (runs_put (u := [96]) (n := 1) (by simp)) (Runs.bind hps.runs hrs.runs))) (fun acc => ?_) (fun s => ?_)).mono (show 1 + (10 + 11 * ps.length + (10 + 11 * rs.length)) ≤ _ by omega)
      · have e0 : ((fs.length : Int) == 0) = false := by simpa using h0
        unfold kComp
        simp only [e0]
        rfl
      · have e0 : ((fs.length : Int) == 0) = false := by simpa using h0
        unfold gComp
        simp only [e0, if_true]
  · have ek : (kind == 1) = false := beq_false_of_ne h1
    by_cases h0 : (ps.length : Int) + rs.length = 0
    · have eb : ((ps.length : Int) + rs.length == 0) = true := by simpa using h0
      have e1 : ((ps.length : Int) == 0) = true := beq_iff_eq.mpr (by omega)
      have e2 : ((rs.length : Int) == 0) = true := beq_iff_eq.mpr (by omega)
      have km : ∀ acc, kMust (kind == 1 || ((ps.length : Int) + rs.length == 0)) acc = .ok () acc := fun acc => by rw [eb, Bool.or_true]; rfl
      by_cases h2 : kind = 2
      · refine (sim_congr (Sim.bind (sim_put (u := [95]) (n := 1) (by simp)) hfs) (fun acc => ?_) (fun s => ?_)).mono (by omega)
        · unfold kComp
          simp only [km, Res.bind]
          rw [if_neg h1, if_pos h2]
        · unfold gComp
          simp only [e1, e2, Bool.and_self, must_true]
          rw [if_neg h1, if_pos h2]
      · by_cases h3 : kind = 3
        · match fs, f3, w3, hfs, rfs with
          | [], f3, w3, hfs, rfs =>
            refine (sim_congr (sim_fail (e := 4) (n := 1) (by decide) (Runs.bind (runs_put (u := [94]) (n := 1) (by simp)) (rfs.mono (Nat.le_refl _)))) (fun acc => ?_) (fun s => ?_)).mono (by simp; omega)
            · unfold kComp
              simp only [km, Res.bind]
              rw [if_neg h1, if_neg h2, if_pos h3]
            · unfold gComp
              simp only [e1, e2, Bool.and_self]
              rw [if_neg h1, if_neg h2, if_pos h3]
              rfl
          | [x], f3, w3, hfs, rfs =>
            have hx := field_sim (w3 x (by simp))
            refine (sim_congr (Sim.bind (sim_put (u := [94]) (n := 1) (by simp)) hx) (fun acc => ?_) (fun s => ?_)).mono (by simp; omega)
            · unfold kComp
              simp only [km, Res.bind]
              rw [if_neg h1, if_neg h2, if_pos h3]
            · unfold gComp
              have e3 : ((([x] : List FT).length : Int) == 1) = true := rfl
              simp only [e1, e2, e3, Bool.and_self, must_true]
              rw [if_neg h1, if_neg h2, if_pos h3]
              cases gPut [94] s with
              | ok u s1 =>
                simp only [Res.bind, gAll]
                cases gField x s1 <;> rfl
              | err t l => rfl
              | no => rfl
          | x :: y :: r, f3, w3, hfs, rfs =>
            refine (sim_congr (sim_fail (e := 4) (by decide) (Runs.bind (runs_put (u := [94]) (n := 1) (by simp)) rfs)) (fun acc => ?_) (fun s => ?_)).mono (by simp; omega)
            · unfold kComp
              simp only [km, Res.bind]
              rw [if_neg h1, if_neg h2, if_pos h3]
            · unfold gComp
              have e3 : (((x :: y :: r).length : Int) == 1) = false := by simp; omega
              simp only [e1, e2, e3, Bool.and_false]
              rw [if_neg h1, if_neg h2, if_pos h3]
        · refine (sim_congr (sim_fail (e := 4) (by decide) rfs) (fun acc => ?_) (fun s => ?_)).mono (by omega)
          · unfold kComp
            simp only [km, Res.bind]
            rw [if_neg h1, if_neg h2, if_neg h3]
          · unfold gComp
            simp only
            rw [if_neg h1, if_neg h2, if_neg h3]
    · have eb : ((ps.length : Int) + rs.length == 0) = false := by simpa using h0
      have km : ∀ acc, kComp ⟨kind, ps, rs, fs⟩ acc = .err y_entry_fault [0, 4] := fun acc => by
        unfold kComp
        simp only [ek, eb]
        rfl
      have eand : (((ps.length : Int) == 0) && ((rs.length : Int) == 0)) = false := by
        rw [Bool.eq_false_iff]
        intro h
        simp only [Bool.and_eq_true, beq_iff_eq] at h
        omega
      by_cases h2 : kind = 2
      · refine (sim_congr (sim_fail (e := 4) (by decide) (Runs.bind (runs_put (u := [95]) (n := 1) (by simp)) hfs.runs)) km (fun s => ?_)).mono (by omega)
        unfold gComp
        simp only [eand]
        rw [if_neg h1, if_pos h2]
      · by_cases h3 : kind = 3
        · refine (sim_congr (sim_fail (e := 4) (by decide) (Runs.bind (runs_put (u := [94]) (n := 1) (by simp)) rfs)) km (fun s => ?_)).mono (by omega)
          unfold gComp
          simp only [eand, Bool.false_and]
          rw [if_neg h1, if_neg h2, if_pos h3]
        · refine (sim_congr (sim_fail (e := 4) (by decide) rfs) km (fun s => ?_)).mono (by omega)
          unfold gComp
          simp only
          rw [if_neg h1, if_neg h2, if_neg h3]
end Go.Proofs.Ytofbbijagbpicaa.Pi.Q
namespace Go.Proofs.Ytofbbijagbpicaa.Pi.Q
open Go Go.Proofs.Ytofbbijagbpicaa.Pi
set_option linter.unusedVariables false
set_option linter.unusedSimpArgs false
set_option maxRecDepth 100000
attribute [local congr] ite_congr
def ST.w (v : ST) : Prop := (∀ a ∈ v.sup, I64 a) ∧ v.comp.w
def nSub (v : ST) : Nat := 20 + 10 * v.sup.length + nComp v.comp
theorem sub_sim {v : ST} (hf : v.fit) (hw : v.w) : Sim (nSub v) (kSub v) (gSub v) := by
  have hc := comp_sim hf.2 hw.2
  have hs := each_sim (most := 1000) hf.1 (fun n hn => index_sim (hw.1 n hn).2)
  unfold nSub
  by_cases h : v.fin = true ∧ (v.sup.length : Int) = 0
  · refine (sim_congr hc (fun acc => ?_) (fun s => ?_)).mono (by omega)
    · unfold kSub; rw [if_pos h]
    · unfold gSub; rw [if_pos ⟨h.1, by omega⟩]
  · refine (sim_congr (Sim.bind (sim_put (u := [if v.fin then 79 else 80]) (n := 1) (by simp)) (Sim.bind hs hc)) (fun acc => ?_) (fun s => ?_)).mono (by omega)
    · unfold kSub
      rw [if_neg h]
      have e1 : (if v.fin = true then kPut [79] acc else kPut [80] acc) = kPut [if v.fin then 79 else 80] acc := by split <;> rfl
      rw [e1]
    · unfold gSub
      rw [if_neg (fun k => h ⟨k.1, by omega⟩)]
      congr 1
      funext _ s
      cases gMany v.sup.length 1000 s <;> rfl
def RT.w (v : RT) : Prop := ∀ t ∈ v.types, t.w
theorem all_simL {α : Type} {n : α → Nat} {k : α → List UInt8 → KR} {g : α → WS → GR} : ∀ (l : List α), (∀ v ∈ l, Sim (n v) (k v) (g v)) → Sim (sumL n l) (kAll k l) (gAll g l)
  | [], h => ⟨fun acc ha => .inl ⟨acc, by simp, rfl, rfl⟩, fun acc e he ha => ⟨acc, by simp, rfl⟩⟩
  | v :: l, h => by
    have := Sim.bind (h v (by simp)) (all_simL l (fun u hu => h u (by simp [hu])))
    exact sim_congr this (fun acc => rfl) (fun s => rfl)
def nRec (v : RT) : Nat := 20 + sumL nSub v.types
theorem rec_sim {v : RT} (hf : v.fit) (hw : v.w) (hn : nRec v ≤ 140737488355328) : (∃ a, a.length ≤ nRec v ∧ kRec v [] = .ok () a ∧ gRec v = .ok () ⟨a, 0⟩) ∨ (∃ e b, e ≠ 0 ∧ kRec v [] = .err y_entry_fault [0, e] ∧ gRec v = .ok () ⟨b, e⟩) := by
  have ha := all_simL v.types (fun t ht => sub_sim (hf.2 t ht) (hw t ht))
  have fin : ∀ {n k g}, Sim n k g → n ≤ nRec v → kRec v [] = k [] → gRec v = g ⟨[], 0⟩ → (∃ a, a.length ≤ nRec v ∧ kRec v [] = .ok () a ∧ gRec v = .ok () ⟨a, 0⟩) ∨ (∃ e b, e ≠ 0 ∧ kRec v [] = .err y_entry_fault [0, e] ∧ gRec v = .ok () ⟨b, e⟩) := fun h hle hk hg => by
    rcases h.1 [] (by simp; omega) with ⟨a, h1, h2, h3⟩ | ⟨e, b, h1, h2, h3, h4⟩
    · exact .inl ⟨a, by simp at h1; omega, by rw [hk, h2], by rw [hg, h3]⟩
    · exact .inr ⟨e, b, h1, by rw [hk, h3], by rw [hg, h4]⟩
  have many : (v.types.length : Int) ≠ 1 → (∃ a, a.length ≤ nRec v ∧ kRec v [] = .ok () a ∧ gRec v = .ok () ⟨a, 0⟩) ∨ (∃ e b, e ≠ 0 ∧ kRec v [] = .err y_entry_fault [0, e] ∧ gRec v = .ok () ⟨b, e⟩) := fun h1 => by
    have hten : (putU v.types.length).length ≤ 10 := putU_ten (by have := hf.1; omega)
    have hk : kRec v [] = ((kPut [78] []).bind fun _ acc => kEach 10000 kSub v.types acc) := by
      unfold kRec
      match hv : v.types with
      | [] => rfl
      | [t] => rw [hv] at h1; simp at h1
      | t :: u :: r => rfl
    have hg : gRec v = ((gPut [78] ⟨[], 0⟩).bind fun _ s => (gMany v.types.length 10000 s).bind fun _ s => gAll gSub v.types s) := by
      unfold gRec
      rw [if_neg h1]
    have he : Sim (10 + sumL nSub v.types) (kEach 10000 kSub v.types) (fun s => (gMany v.types.length 10000 s).bind fun _ s => gAll gSub v.types s) := by
      by_cases hm : 10000 < v.types.length
      · refine sim_congr (sim_fail (e := 2) (g := fun s => (gPut (putU v.types.length) s).bind fun _ s => gAll gSub v.types s) (by decide) (Sim.bind (sim_put hten) ha).runs) (fun acc => ?_) (fun s => ?_)
        · unfold kEach; rw [if_pos hm]
        · unfold gMany
          rw [decide_eq_false (by omega), Int.toNat_natCast]
      · refine sim_congr (Sim.bind (sim_put hten) ha) (fun acc => ?_) (fun s => ?_)
        · unfold kEach; rw [if_neg hm]
        · unfold gMany
          rw [decide_eq_true (by omega), must_true, Int.toNat_natCast]
    exact fin (Sim.bind (sim_put (u := [78]) (n := 1) (by simp)) he) (by unfold nRec; omega) hk hg
  match hv : v.types with
  | [] => exact many (by rw [hv]; decide)
  | t :: u :: r => exact many (by rw [hv]; simp; omega)
  | [t] =>
    have ht := sub_sim (hf.2 t (by rw [hv]; simp)) (hw t (by rw [hv]; simp))
    refine fin ht (by unfold nRec; rw [hv]; simp only [sumL]; omega) (by unfold kRec; rw [hv]) ?_
    unfold gRec
    rw [hv, if_pos (by rfl)]
    simp only [gAll]
    cases gSub t ⟨[], 0⟩ <;> rfl
theorem limits_sim {v : LT} (h1 : 0 ≤ v.min ∧ v.min < 18446744073709551616) (h2 : 0 ≤ v.max ∧ v.max < 18446744073709551616) : Sim 21 (kLimits v) (gLimits v) := by
  obtain ⟨wide, min, max, has⟩ := v
  simp only at h1 h2
  have p1 : (putU min.toNat).length ≤ 10 := putU_ten (by omega)
  have p2 : (putU max.toNat).length ≤ 10 := putU_ten (by omega)
  have s1 := sim_put (u := [if has then (if wide then 5 else 1) else (if wide then 4 else 0)]) (n := 1) (by simp)
  have s2 : Sim (0 + 10) (fun acc => (kMust (wide || decide (min < 4294967296)) acc).bind fun _ acc => kU min acc) (fun s => (Res.ok () (gMust (wide || decide (min < 4294967296)) 4 s) : GR).bind fun _ s => gPut (putU min.toNat) s) := Sim.bind (sim_must (by decide) rfl) (sim_put p1)
  have s3 : Sim (0 + 10) (fun acc => (if has = true ∨ max = 0 then kMust (wide || decide (max < 4294967296)) acc else .err y_entry_fault [0, 4] : KR).bind fun _ acc => if has = true then kU max acc else .ok () acc)
      (fun s => (Res.ok () (gMust (if wide = true ∨ max < 4294967296 then (has || (max == 0)) else false) 4 s) : GR).bind fun _ s => if has = true then gPut (putU max.toNat) s else .ok () s) := by
    refine Sim.bind ?_ ?_
    · refine sim_congr (sim_must (b := (if wide = true ∨ max < 4294967296 then (has || (max == 0)) else false)) (e := 4) (by decide) rfl) (fun acc => ?_) (fun s => rfl)
      by_cases a1 : has = true ∨ max = 0
      · rw [if_pos a1]
        have e1 : (has || (max == 0)) = true := by rcases a1 with h | h <;> simp [h]
        rw [e1]
        unfold kMust
        by_cases a2 : wide = true ∨ max < 4294967296
        · rw [if_pos a2]
          have e2 : (wide || decide (max < 4294967296)) = true := by rcases a2 with h | h <;> simp [h]
          rw [e2]
        · rw [if_neg a2]
          have e2 : (wide || decide (max < 4294967296)) = false := by
            rw [Bool.eq_false_iff]; intro h; apply a2
            simpa using h
          rw [e2]
      · rw [if_neg a1]
        have e1 : (has || (max == 0)) = false := by
          rw [Bool.eq_false_iff]; intro h; apply a1
          simpa using h
        rw [e1]
        simp
    · cases has
      · exact ⟨fun acc ha => .inl ⟨acc, by omega, rfl, rfl⟩, fun acc e he ha => ⟨acc, by omega, rfl⟩⟩
      · exact sim_put p2
  refine (sim_congr (Sim.bind s1 (Sim.bind s2 s3)) (fun acc => ?_) (fun s => ?_)).mono (by omega)
  · unfold kLimits
    simp only
    congr 1
    funext _ acc
    cases kMust (wide || decide (min < 4294967296)) acc <;> rfl
  · unfold gLimits
    simp only
    congr 1
def Both (k : KR) (g : GR) : Prop := (∃ a, k = .ok () a ∧ g = .ok () ⟨a, 0⟩) ∨ (∃ e b, e ≠ 0 ∧ k = .err y_entry_fault [0, e] ∧ g = .ok () ⟨b, e⟩)
theorem Sim.both {n : Nat} {k : List UInt8 → KR} {g : WS → GR} (h : Sim n k g) (hn : n ≤ 140737488355328) : Both (k []) (g ⟨[], 0⟩) := by
  rcases h.1 [] (by simpa using hn) with ⟨a, h1, h2, h3⟩ | ⟨e, b, h1, h2, h3, h4⟩
  · exact .inl ⟨a, h2, h3⟩
  · exact .inr ⟨e, b, h1, h3, h4⟩
theorem tag_both {n : Int} (hn : n ≤ 9223372036854775807) : Both (kTag n []) (gIndex n ⟨[0], 0⟩) := by
  have hk : kTag n [] = kIndex n [0] := rfl
  rw [hk]
  rcases (index_sim hn).1 [0] (by simp) with ⟨a, h1, h2, h3⟩ | ⟨e, b, h1, h2, h3, h4⟩
  · exact .inl ⟨a, h2, h3⟩
  · exact .inr ⟨e, b, h1, h3, h4⟩
theorem block_both {v : BK} (h1 : I64 v.res.heap) : Both (kBlock v []) (gBlock v) := by
  unfold kBlock gBlock
  by_cases h0 : 0 ≤ v.ty
  · rw [if_pos h0, if_pos h0]
    by_cases hc : v.res = ⟨0, false, 0⟩ ∧ v.ty ≤ 2147483647
    · rw [if_pos hc, decide_eq_true ⟨hc.1, by omega⟩]
      exact .inl ⟨_, rfl, rfl⟩
    · rw [if_neg hc, decide_eq_false (fun h => hc ⟨h.1, by omega⟩)]
      exact .inr ⟨4, _, by decide, rfl, rfl⟩
  · rw [if_neg h0, if_neg h0]
    by_cases h3 : v.ty < -1
    · rw [if_pos h3, if_pos h3]
      exact .inr ⟨4, _, by decide, rfl, rfl⟩
    · rw [if_neg h3, if_neg h3]
      by_cases hz : v.res = ⟨0, false, 0⟩
      · rw [if_pos hz, if_pos hz]
        exact .inl ⟨_, rfl, rfl⟩
      · rw [if_neg hz, if_neg hz]
        exact (val_sim h1).both (by decide)
theorem Both.seen {k : KR} {g : GR} (h : Both k g) : ∃ u e S, OkR k ∧ (∀ K, outW k K = some (.ok (.tup [LZ true 1 (bytes u), .int .i64 e]) K)) ∧ (∃ s, g = .ok () s ∧ doneV s.b s.e = .tup [S, .int .i64 e]) ∧ stripC S = LZ true 1 (bytes u) ∧ (e = 0 ∨ u = []) := by
  rcases h with ⟨a, rfl, rfl⟩ | ⟨e, b, he, rfl, rfl⟩
  · exact ⟨a, 0, accB a, ⟨fun t l h => (by cases h), fun h => (by cases h)⟩, fun K => rfl, ⟨_, rfl, by simp [doneV]⟩, stripC_B, .inl rfl⟩
  · exact ⟨[], e, .slice false true 0 [], ⟨fun t l h => (by cases h; exact ⟨rfl, _, _, rfl⟩), fun h => (by cases h)⟩, fun K => by simp [outW]; rfl, ⟨_, rfl, by simp [doneV, he]⟩, rfl, .inr rfl⟩
theorem toBytes_bytes : ∀ u : List UInt8, toBytes (bytes u) = some u
  | [] => rfl
  | c :: r => by
    have ih := toBytes_bytes r
    have e : toBytes (bytes (c :: r)) = (toBytes (bytes r)).map (UInt8.ofNat ((c.toNat : Int)).toNat :: ·) := rfl
    rw [e, ih]
    simp
theorem cv_LZ {o z : Bool} {u : List UInt8} {K : Heap} : run (cv .bytesToStr o (LZ z 1 (bytes u))) K = some (.ok (.str ⟨u.toArray⟩) K) := by
  have key : ∀ z s xs, xs = bytes u → run (cv .bytesToStr o (.slice false z s xs)) K = some (.ok (.str ⟨u.toArray⟩) K) := fun z s xs h => by
    subst h
    unfold run cv
    simp only [toBytes_bytes]
    rfl
  cases u with
  | nil => exact key _ _ _ rfl
  | cons c r => exact key _ _ _ rfl
theorem same_true {u : List UInt8} {e : Int} {H : Heap} (h : e = 0 ∨ u = []) : run (C k_ratchetlaw08_same [LZ true 1 (bytes u), .int .i64 e, LZ true 1 (bytes u), .int .i64 e]) H = some (.ok (.bool true) H) := by
  rw [ratchetlaw08_same_eq]
  by_cases he : e = 0
  · subst he
    simp (contextual := true) (dsimp := false) (disch := omega) only [↓goDown, goUp, List.length_cons, List.length_nil, List.map_cons, List.map_nil, List.take_succ_cons, List.take_zero, List.drop_succ_cons, List.drop_zero, List.drop_nil, List.take_nil, List.cons_append, List.nil_append, List.append_nil, List.set_cons_zero, List.set_cons_succ, List.all_cons, List.all_nil, ↓reduceIte, reduceCtorEq, ge_iff_le, gt_iff_lt, eq_self_iff_true, beq_self_eq_true, beq_iff_eq, bne_iff_ne, ne_eq, ite_not, Int.reduceEq, Option.getD_some, Option.getD_none, ite_self, Nat.reduceAdd, Nat.reduceSub, Nat.reduceMul, Nat.reduceLeDiff, Nat.reduceEqDiff, Nat.reduceBEq, Nat.reduceBNe, Int.reduceLT, Int.reduceLE, Int.reduceAdd, Int.reduceSub, Int.reduceMul, Int.reduceNeg, Int.reduceNe, Int.reduceBEq, Int.reduceBNe, Int.reduceToNat, strip_Z, cv_LZ, str_eq]
  · obtain rfl := h.resolve_left he
    have ez : (e == 0) = false := beq_false_of_ne he
    have hl : ∀ K, run (lnL (LZ true 1 [])) K = some (.ok (.int .i64 0) K) := fun K => rfl
    have hc : ∀ K, run (cv .bytesToStr true (LZ true 1 [])) K = some (.ok (.str ⟨#[]⟩) K) := fun K => cv_LZ (u := [])
    simp (contextual := true) (dsimp := false) (disch := omega) only [↓goDown, goUp, List.length_cons, List.length_nil, List.map_cons, List.map_nil, List.take_succ_cons, List.take_zero, List.drop_succ_cons, List.drop_zero, List.drop_nil, List.take_nil, List.cons_append, List.nil_append, List.append_nil, List.set_cons_zero, List.set_cons_succ, List.all_cons, List.all_nil, ↓reduceIte, reduceCtorEq, ge_iff_le, gt_iff_lt, eq_self_iff_true, beq_self_eq_true, beq_iff_eq, bne_iff_ne, ne_eq, ite_not, Int.reduceEq, Option.getD_some, Option.getD_none, ite_self, Nat.reduceAdd, Nat.reduceSub, Nat.reduceMul, Nat.reduceLeDiff, Nat.reduceEqDiff, Nat.reduceBEq, Nat.reduceBNe, Int.reduceLT, Int.reduceLE, Int.reduceAdd, Int.reduceSub, Int.reduceMul, Int.reduceNeg, Int.reduceNe, Int.reduceBEq, Int.reduceBNe, Int.reduceToNat, strip_Z, hc, str_eq, ez, hl]
theorem writes_true {v : VT} {k : BK} {g : RG} {l : LT} {n : Int} {H : Heap} (v1 : I64 v.heap) (k1 : I64 k.res.heap) (k2 : k.ty ≤ 9223372036854775807) (g1 : g.fit) (g2 : g.plain.fit) (g3 : g.plain.w) (g4 : g.plain.wide) (g5 : nRec g.plain ≤ 140737488355328)
    (l1 : 0 ≤ l.min ∧ l.min < 18446744073709551616) (l2 : 0 ≤ l.max ∧ l.max < 18446744073709551616) (n1 : n ≤ 9223372036854775807) :
    run (C k_ratchetlaw08_EntryWrites [.agg (cs_V v), .agg (cs_B k), encRG g, .agg (cs_LT l), .int .i64 n]) H = some (.ok (.bool true) H) := by
  obtain ⟨u1, e1, S1, o1, a1, ⟨s1, b1, d1⟩, st1, x1⟩ := ((heap_sim v1.1 v1.2).both (by decide)).seen
  obtain ⟨u2, e2, S2, o2, a2, ⟨s2, b2, d2⟩, st2, x2⟩ := ((val_sim v1).both (by decide)).seen
  obtain ⟨u3, e3, S3, o3, a3, ⟨s3, b3, d3⟩, st3, x3⟩ := (block_both (v := k) k1).seen
  have hrec : Both (kRec g.plain []) (gRec g.plain) := by
    rcases rec_sim g2 g3 g5 with ⟨a, h1, h2, h3⟩ | ⟨e, b, h1, h2, h3⟩
    · exact .inl ⟨a, h2, h3⟩
    · exact .inr ⟨e, b, h1, h2, h3⟩
  obtain ⟨u4, e4, S4, o4, a4, ⟨s4, b4, d4⟩, st4, x4⟩ := hrec.seen
  obtain ⟨u5, e5, S5, o5, a5, ⟨s5, b5, d5⟩, st5, x5⟩ := ((limits_sim l1 l2).both (by decide)).seen
  obtain ⟨u6, e6, S6, o6, a6, ⟨s6, b6, d6⟩, st6, x6⟩ := (tag_both n1).seen
  have p1 := fun K => (put_heap (H := K) o1).trans (a1 K)
  have p2 := fun K => (put_val (H := K) o2).trans (a2 K)
  have p3 := fun K => (put_block (H := K) o3).trans (a3 K)
  have p4 := fun K => (put_rec (H := K) g1 o4).trans (a4 K)
  have p5 := fun K => (put_limits (H := K) l1 l2 o5).trans (a5 K)
  have p6 := fun K => (put_tag (H := K) o6).trans (a6 K)
  have q1 := fun K => gput_heap (H := K) v1.2 b1
  have q2 := fun K => gput_val (H := K) v1.2 b2
  have q3 := fun K => gput_block (H := K) k1.2 k2 b3
  have q4 := fun K => gput_rec (H := K) g1 g4 b4
  have q5 := fun K => gput_limits (H := K) l1 l2 b5
  have q6 := fun K => gput_tag (H := K) n1 b6
  simp only [d1, d2, d3, d4, d5, d6] at q1 q2 q3 q4 q5 q6
  have w1 := fun K => same_true (H := K) x1
  have w2 := fun K => same_true (H := K) x2
  have w3 := fun K => same_true (H := K) x3
  have w4 := fun K => same_true (H := K) x4
  have w5 := fun K => same_true (H := K) x5
  have w6 := fun K => same_true (H := K) x6
  unfold encRG at p4 q4 ⊢
  unfold cs_V cs_B cs_LT
  rw [ratchetlaw08_EntryWrites_eq]
  simp (contextual := true) (dsimp := false) (disch := omega) only [↓goDown, goUp, List.length_cons, List.length_nil, List.map_cons, List.map_nil, List.take_succ_cons, List.take_zero, List.drop_succ_cons, List.drop_zero, List.drop_nil, List.take_nil, List.cons_append, List.nil_append, List.append_nil, List.set_cons_zero, List.set_cons_succ, List.all_cons, List.all_nil, ↓reduceIte, reduceCtorEq, ge_iff_le, gt_iff_lt, eq_self_iff_true, beq_self_eq_true, beq_iff_eq, bne_iff_ne, ne_eq, ite_not, Int.reduceEq, Option.getD_some, Option.getD_none, ite_self, Nat.reduceAdd, Nat.reduceSub, Nat.reduceMul, Nat.reduceLeDiff, Nat.reduceEqDiff, Nat.reduceBEq, Nat.reduceBNe, Int.reduceLT, Int.reduceLE, Int.reduceAdd, Int.reduceSub, Int.reduceMul, Int.reduceNeg, Int.reduceNe, Int.reduceBEq, Int.reduceBNe, Int.reduceToNat, p1, p2, p3, p4, p5, p6, q1, q2, q3, q4, q5, q6, st1, st2, st3, st4, st5, st6, w1, w2, w3, w4, w5, w6, un_not, awake_is, cells_Z, isCell_Z, low_Z, stripC_Z, isTup_Z, strip_Z]
end Go.Proofs.Ytofbbijagbpicaa.Pi.Q
namespace Go.Proofs.Ytofbbijagbpicaa.Pi.Q
open Go Go.Proofs.Ytofbbijagbpicaa.Pi
set_option linter.unusedVariables false
theorem sumL_length {α : Type} {m : α → Nat} : ∀ (l : List α), (∀ a ∈ l, 1 ≤ m a) → l.length ≤ sumL m l
  | [], _ => Nat.le_refl _
  | a :: l, h => by
    have h1 := h a (by simp)
    have h2 := sumL_length l (fun b hb => h b (by simp [hb]))
    simp only [List.length_cons, sumL]
    omega
theorem sumL_le {α : Type} {m n : α → Nat} {k : Nat} : ∀ (l : List α), (∀ a ∈ l, n a ≤ k * m a) → sumL n l ≤ k * sumL m l
  | [], _ => Nat.zero_le _
  | a :: l, h => by
    have h1 := h a (by simp)
    have h2 := sumL_le l (fun b hb => h b (by simp [hb]))
    simp only [sumL]
    rw [Nat.mul_add]
    omega
theorem sumL_map {α β : Type} {m : β → Nat} {f : α → β} : ∀ (l : List α), sumL m (l.map f) = sumL (fun a => m (f a)) l
  | [] => rfl
  | a :: l => by simp only [List.map_cons, sumL, sumL_map l]
theorem sumL_mem {α : Type} {m : α → Nat} : ∀ (l : List α) (a : α), a ∈ l → m a ≤ sumL m l
  | b :: l, a, h => by
    simp only [sumL]
    rcases List.mem_cons.mp h with rfl | h
    · omega
    · have := sumL_mem (m := m) l a h
      omega
theorem i64_of {n : Int} (h : (Lit.int .i64 n).wf = true) : I64 n := wf_i64 h
theorem v_of {v : VT} (h : ok_V v) : I64 v.heap := i64_of h.2.2.1
theorem cg_len {v : CG} : v.ps.l.length ≤ ms_CG v ∧ v.rs.l.length ≤ ms_CG v ∧ v.fs.l.length ≤ ms_CG v := by
  have h1 := sumL_length (m := fun a => ms_V a) v.ps.l (fun a _ => by unfold ms_V; omega)
  have h2 := sumL_length (m := fun a => ms_V a) v.rs.l (fun a _ => by unfold ms_V; omega)
  have h3 := sumL_length (m := fun a => ms_F a) v.fs.l (fun a _ => by unfold ms_F; omega)
  unfold ms_CG
  omega
theorem cg_w {v : CG} (h : ok_CG v) : v.plain.w := by
  obtain ⟨_, h1, h2, h3, _⟩ := h
  exact ⟨fun a ha => v_of (h1 a ha), fun a ha => v_of (h2 a ha), fun a ha => v_of (h3 a ha).1⟩
theorem w_wide {v : CT} (h : v.w) : v.wide := ⟨fun a ha => (h.1 a ha).2, fun a ha => (h.2.1 a ha).2, fun a ha => (h.2.2 a ha).2⟩
theorem cg_n {v : CG} : nComp v.plain ≤ 40 * ms_CG v := by
  have h1 := sumL_length (m := fun a => ms_V a) v.ps.l (fun a _ => by unfold ms_V; omega)
  have h2 := sumL_length (m := fun a => ms_V a) v.rs.l (fun a _ => by unfold ms_V; omega)
  have h3 := sumL_length (m := fun a => ms_F a) v.fs.l (fun a _ => by unfold ms_F; omega)
  unfold ms_CG nComp CG.plain
  simp only
  omega
theorem sg_len {v : SG} : v.sup.l.length ≤ ms_SG v := by
  have h1 := sumL_length (m := fun _ => 1) v.sup.l (fun a _ => Nat.le_refl _)
  unfold ms_SG
  omega
theorem sg_w {v : SG} (h : ok_SG v) : v.plain.w := by
  obtain ⟨_, h1, h2, _⟩ := h
  exact ⟨fun a ha => i64_of (h1 a ha), cg_w h2⟩
theorem sg_n {v : SG} : nSub v.plain ≤ 60 * ms_SG v := by
  have h1 := sumL_length (m := fun _ => 1) v.sup.l (fun a _ => Nat.le_refl _)
  have h2 := cg_n (v := v.comp)
  unfold nSub SG.plain ms_SG
  simp only
  omega
theorem sg_fit {v : SG} (h : ms_SG v ≤ 1048576) : v.plain.fit := by
  have h1 := sg_len (v := v)
  have h2 := cg_len (v := v.comp)
  have h3 : ms_CG v.comp ≤ ms_SG v := by unfold ms_SG; omega
  exact ⟨by show v.sup.l.length < _; omega, by show v.comp.ps.l.length < _; omega, by show v.comp.rs.l.length < _; omega, by show v.comp.fs.l.length < _; omega⟩
theorem rg_all {v : RG} (h : ok_RG v) (hm : ms_RG v ≤ 1048576) : v.fit ∧ v.plain.fit ∧ v.plain.w ∧ v.plain.wide ∧ nRec v.plain ≤ 140737488355328 := by
  have h1 := sumL_length (m := fun a => ms_SG a) v.types.l (fun a _ => by unfold ms_SG; omega)
  have hs : sumL (fun a => ms_SG a) v.types.l ≤ ms_RG v := by unfold ms_RG; omega
  have hf : ∀ t ∈ v.types.l, t.plain.fit := fun t ht => sg_fit (by have := sumL_mem (m := fun a => ms_SG a) _ t ht; omega)
  have hw : v.plain.w := fun t ht => by
    simp only [RG.plain, List.mem_map] at ht
    obtain ⟨s, hs, rfl⟩ := ht
    exact sg_w (h.1 s hs)
  refine ⟨⟨by omega, hf⟩, ⟨by simp only [RG.plain, List.length_map]; omega, fun t ht => ?_⟩, hw, fun t ht => ?_, ?_⟩
  · simp only [RG.plain, List.mem_map] at ht
    obtain ⟨s, hs, rfl⟩ := ht
    exact hf s hs
  · have := hw t ht
    exact ⟨fun a ha => (this.1 a ha).2, w_wide this.2⟩
  · unfold nRec RG.plain
    simp only [sumL_map]
    have := sumL_le (m := fun a => ms_SG a) (n := fun a => nSub a.plain) (k := 60) v.types.l (fun a _ => sg_n)
    omega
theorem writes_of {v : VT} {k : BK} {g : RG} {l : LT} {n : Int} {H : Heap} (hv : ok_V v) (hk : ok_B k) (hg : ok_RG g) (hl : ok_LT l) (hn : (Lit.int .i64 n).wf = true) (hm : ms_RG g ≤ 1048576) :
    run (C k_ratchetlaw08_EntryWrites [.agg (cs_V v), .agg (cs_B k), .agg (cs_RG g), .agg (cs_LT l), .int .i64 n]) H = some (.ok (.bool true) H) := by
  obtain ⟨g1, g2, g3, g4, g5⟩ := rg_all hg hm
  exact writes_true (v_of hv) (v_of hk.2.1) (i64_of hk.1).2 g1 g2 g3 g4 g5 (wf_u64 hl.2.1) (wf_u64 hl.2.2.1) (i64_of hn).2
end Go.Proofs.Ytofbbijagbpicaa.Pi.Q
