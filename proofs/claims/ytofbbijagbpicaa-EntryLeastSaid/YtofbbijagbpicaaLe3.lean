/- What the law rests on, part 4 of 5: a reading of the program's code over told data, and what it comes to. -/
import Derived.Test.YtofbbijagbpicaaLe2
namespace Go.Proofs.Ytofbbijagbpicaa.Pi.Q
open Go Go.Proofs.Ytofbbijagbpicaa.Pi
set_option linter.unusedVariables false
set_option linter.unusedSimpArgs false
set_option maxRecDepth 100000
attribute [local congr] ite_congr
theorem rS33_le {b : List UInt8} {p q : Nat} {v : Int} (h : rS33 b p = .ok v q) : q ≤ b.length ∧ 0 ≤ v ∧ v ≤ 2147483647 := by
  unfold rS33 at h
  cases hr : rdS b 33 b.length p with
  | ok n q' =>
    rw [hr] at h
    dsimp only at h
    have := rdS_lt hr
    split at h
    · cases h
    · split at h
      · cases h
      · simp only [Rs.ok.injEq] at h
        obtain ⟨rfl, rfl⟩ := h
        omega
  | err a w => rw [hr] at h; cases h
theorem hname_le (c : Nat) : -12 ≤ hname c ∧ hname c ≤ 0 := by
  unfold hname
  repeat' (split; omega)
  omega
theorem rHeap_le {b : List UInt8} {p q : Nat} {v : Int} (h : rHeap b p = .ok v q) : q ≤ b.length ∧ -12 ≤ v ∧ v ≤ 2147483647 := by
  unfold rHeap at h
  split at h
  · split at h
    · simp only [Rs.ok.injEq] at h
      obtain ⟨rfl, rfl⟩ := h
      have := hname_le (b.getD p 0).toNat
      omega
    · have := rS33_le h; omega
  · cases h
theorem rRef_le {b : List UInt8} {p q : Nat} {v : VT} (h : rRef b p = .ok v q) : q ≤ b.length := by
  unfold rRef at h
  split at h
  · dsimp only at h
    split at h
    · simp only [Rs.ok.injEq] at h; omega
    · split at h
      · cases h
      · cases hr : rHeap b (p + 1) with
        | ok n q' => rw [hr] at h; simp only [Rs.ok.injEq] at h; have := rHeap_le hr; omega
        | err a w => rw [hr] at h; cases h
  · cases h
theorem strip_V {v : VT} : strip (encV v) = encV v := nrfl rfl
theorem stripC_V {v : VT} : stripC (encV v) = encV v := nrfl rfl
theorem isTup_V {v : VT} : isTup (encV v) = false := nrfl rfl
theorem cells_V {v : VT} : (encV v).cells = [.int .i64 v.num, .bool v.nul, .int .i64 v.heap] := nrfl rfl
theorem low_V {v : VT} {n : Nat} : (encV v).low n = true := by simp [encV, low_agg, lowL_cons, lowL_nil, low_int, low_bool]
def rVal (b : List UInt8) (p : Nat) : Rs VT :=
  if p < b.length then
    if (b.getD p 0).toNat = 123 then .err p 8
    else if 124 ≤ (b.getD p 0).toNat ∧ (b.getD p 0).toNat ≤ 127 then .ok ⟨128 - (b.getD p 0).toNat, false, 0⟩ (p + 1)
    else rRef b p
  else .err b.length 3
theorem rVal_le {b : List UInt8} {p q : Nat} {v : VT} (h : rVal b p = .ok v q) : q ≤ b.length := by
  unfold rVal at h
  split at h
  · split at h
    · cases h
    · split at h
      · simp only [Rs.ok.injEq] at h; omega
      · exact rRef_le h
  · cases h
theorem val_is {H : Heap} {b : List UInt8} {z : Bool} {c p : Nat} (hH : hget H c = some (curB z b p)) (hb : b.length < 2 ^ 61) (hp : p ≤ b.length) :
    ∃ q, run (C k_entry_cursor_val [.ptr c 0]) H = outC z b c H q encV (rVal b p) := by
  have hid := get_lt hH
  have hset := set_self hH
  rw [entry_cursor_val_eq]
  unfold rVal
  have hH1 : ∀ L, hget (hadd H L) c = some (curB z b p) := fun L => by rw [get_old hid]; exact hH
  by_cases h1 : p < b.length
  · have hl := fun L => look_ok (hH1 L) hb h1
    have hc := byt_lt (b.getD p 0)
    rw [if_pos h1]
    generalize (b.getD p 0).toNat = x at hl hc ⊢
    by_cases h2 : x = 123
    · refine ⟨p, ?_⟩
      rw [if_pos h2]
      have c1 : (x : Int) = 123 := by omega
      simp only [outC, hset]
      unfold curB at hH
      simp (contextual := true) (dsimp := false) (disch := omega) only [↓goDown, goUp, List.length_cons, List.length_nil, List.map_cons, List.map_nil, List.take_succ_cons, List.take_zero, List.drop_succ_cons, List.drop_zero, List.drop_nil, List.take_nil, List.cons_append, List.nil_append, List.append_nil, List.set_cons_zero, List.set_cons_succ, List.all_cons, List.all_nil, ↓reduceIte, reduceCtorEq, ge_iff_le, gt_iff_lt, eq_self_iff_true, beq_self_eq_true, beq_iff_eq, bne_iff_ne, ne_eq, ite_not, Int.reduceEq, Option.getD_some, Option.getD_none, ite_self, Nat.reduceAdd, Nat.reduceSub, Nat.reduceMul, Nat.reduceLeDiff, Nat.reduceEqDiff, Nat.reduceBEq, Nat.reduceBNe, Int.reduceLT, Int.reduceLE, Int.reduceAdd, Int.reduceSub, Int.reduceMul, Int.reduceNeg, Int.reduceNe, Int.reduceBEq, Int.reduceBNe, Int.reduceToNat, hl, eq_true c1, hH, fail_is]
      rfl
    · rw [if_neg h2]
      have c1 : ¬ (x : Int) = 123 := by omega
      by_cases h3 : 124 ≤ x ∧ x ≤ 127
      · refine ⟨p, ?_⟩
        rw [if_pos h3]
        have c2 : (124 : Int) ≤ x := by omega
        have c3 : (x : Int) ≤ 127 := by omega
        simp only [outC]
        unfold curB at hH ⊢
        simp (contextual := true) (dsimp := false) (disch := omega) only [↓goDown, goUp, List.length_cons, List.length_nil, List.map_cons, List.map_nil, List.take_succ_cons, List.take_zero, List.drop_succ_cons, List.drop_zero, List.drop_nil, List.take_nil, List.cons_append, List.nil_append, List.append_nil, List.set_cons_zero, List.set_cons_succ, List.all_cons, List.all_nil, ↓reduceIte, reduceCtorEq, ge_iff_le, gt_iff_lt, eq_self_iff_true, beq_self_eq_true, beq_iff_eq, bne_iff_ne, ne_eq, ite_not, Int.reduceEq, Option.getD_some, Option.getD_none, ite_self, Nat.reduceAdd, Nat.reduceSub, Nat.reduceMul, Nat.reduceLeDiff, Nat.reduceEqDiff, Nat.reduceBEq, Nat.reduceBNe, Int.reduceLT, Int.reduceLE, Int.reduceAdd, Int.reduceSub, Int.reduceMul, Int.reduceNeg, Int.reduceNe, Int.reduceBEq, Int.reduceBNe, Int.reduceToNat, hl, c1, c2, c3, hH, ns]
        rfl
      · rw [if_neg h3]
        obtain ⟨q, hk⟩ := ref_is (hH1 [.cells [.int .i64 0, .bool false, .int .i64 0]]) hb hp
        refine ⟨q, ?_⟩
        have so : ∀ u L, Pi.hset (hadd H L) c (curB z b u) = hadd (Pi.hset H c (curB z b u)) L := fun u L => by rw [set_old hid]
        have e3 : ((124 : Int) ≤ x) = (124 ≤ x) := by rw [eq_iff_iff]; omega
        have e4 : ((x : Int) ≤ 127) = (x ≤ 127) := by rw [eq_iff_iff]; omega
        by_cases h4 : 124 ≤ x
        · have h5 : ¬ x ≤ 127 := fun h => h3 ⟨h4, h⟩
          cases hr : rRef b p <;> rw [hr] at hk <;> simp only [outC, so] at hk ⊢ <;>
            simp (contextual := true) (dsimp := false) (disch := omega) only [↓goDown, goUp, List.length_cons, List.length_nil, List.map_cons, List.map_nil, List.take_succ_cons, List.take_zero, List.drop_succ_cons, List.drop_zero, List.drop_nil, List.take_nil, List.cons_append, List.nil_append, List.append_nil, List.set_cons_zero, List.set_cons_succ, List.all_cons, List.all_nil, ↓reduceIte, reduceCtorEq, ge_iff_le, gt_iff_lt, eq_self_iff_true, beq_self_eq_true, beq_iff_eq, bne_iff_ne, ne_eq, ite_not, Int.reduceEq, Option.getD_some, Option.getD_none, ite_self, Nat.reduceAdd, Nat.reduceSub, Nat.reduceMul, Nat.reduceLeDiff, Nat.reduceEqDiff, Nat.reduceBEq, Nat.reduceBNe, Int.reduceLT, Int.reduceLE, Int.reduceAdd, Int.reduceSub, Int.reduceMul, Int.reduceNeg, Int.reduceNe, Int.reduceBEq, Int.reduceBNe, Int.reduceToNat, hl, c1, e3, e4, h4, h5, hk, p_entry_cursor_val_111_eq, low_flt, strip_V, isTup_V, cells_V, low_V] <;> rfl
        · cases hr : rRef b p <;> rw [hr] at hk <;> simp only [outC, so] at hk ⊢ <;>
            simp (contextual := true) (dsimp := false) (disch := omega) only [↓goDown, goUp, List.length_cons, List.length_nil, List.map_cons, List.map_nil, List.take_succ_cons, List.take_zero, List.drop_succ_cons, List.drop_zero, List.drop_nil, List.take_nil, List.cons_append, List.nil_append, List.append_nil, List.set_cons_zero, List.set_cons_succ, List.all_cons, List.all_nil, ↓reduceIte, reduceCtorEq, ge_iff_le, gt_iff_lt, eq_self_iff_true, beq_self_eq_true, beq_iff_eq, bne_iff_ne, ne_eq, ite_not, Int.reduceEq, Option.getD_some, Option.getD_none, ite_self, Nat.reduceAdd, Nat.reduceSub, Nat.reduceMul, Nat.reduceLeDiff, Nat.reduceEqDiff, Nat.reduceBEq, Nat.reduceBNe, Int.reduceLT, Int.reduceLE, Int.reduceAdd, Int.reduceSub, Int.reduceMul, Int.reduceNeg, Int.reduceNe, Int.reduceBEq, Int.reduceBNe, Int.reduceToNat, hl, c1, e3, e4, h4, hk, p_entry_cursor_val_111_eq, low_flt, strip_V, isTup_V, cells_V, low_V] <;> rfl
  · refine ⟨p, ?_⟩
    have hl := fun L => look_err (hH1 L) hb h1
    rw [if_neg h1]
    simp only [outC, hset]
    simp (contextual := true) (dsimp := false) (disch := omega) only [↓goDown, goUp, List.length_cons, List.length_nil, List.map_cons, List.map_nil, List.take_succ_cons, List.take_zero, List.drop_succ_cons, List.drop_zero, List.drop_nil, List.take_nil, List.cons_append, List.nil_append, List.append_nil, List.set_cons_zero, List.set_cons_succ, List.all_cons, List.all_nil, ↓reduceIte, reduceCtorEq, ge_iff_le, gt_iff_lt, eq_self_iff_true, beq_self_eq_true, beq_iff_eq, bne_iff_ne, ne_eq, ite_not, Int.reduceEq, Option.getD_some, Option.getD_none, ite_self, Nat.reduceAdd, Nat.reduceSub, Nat.reduceMul, Nat.reduceLeDiff, Nat.reduceEqDiff, Nat.reduceBEq, Nat.reduceBNe, Int.reduceLT, Int.reduceLE, Int.reduceAdd, Int.reduceSub, Int.reduceMul, Int.reduceNeg, Int.reduceNe, Int.reduceBEq, Int.reduceBNe, Int.reduceToNat, hl, low_flt]
def rsCons {α : Type} (v : α) : Rs (List α) → Rs (List α)
  | .ok l q => .ok (v :: l) q
  | .err a w => .err a w
def rRep {α : Type} (one : Nat → Rs α) : Nat → Nat → Rs (List α)
  | 0, p => .ok [] p
  | n + 1, p => match one p with
    | .ok v q => rsCons v (rRep one n q)
    | .err a w => .err a w
def rList {α : Type} (b : List UInt8) (most : Nat) (one : Nat → Rs α) (p : Nat) : Rs (List α) :=
  match rU32 b p with
  | .ok n q => if most < n then .err p 2 else rRep one n q
  | .err a w => .err a w
def accP (sz : Nat) (l : List PV) : PV := match l with | [] => .slice false true 0 [] | l => .slice true false sz l
theorem ap_acc {H : Heap} {sz b : Nat} {l : List PV} {v : PV} {o : Bool} (h : (l.length + 1) * max b 1 ≤ 140737488355328) :
    run (ap true sz b (accP sz l) (.slice o false sz [v])) H = some (.ok (accP sz (l ++ [v])) H) := by
  cases l with
  | nil =>
    unfold accP run ap tail growB
    have h2 : max b 1 ≤ 140737488355328 := by simpa using h
    simp [h2, M.pure]
  | cons x r =>
    unfold accP run ap tail growB
    have h2 : ((x :: r).length + [v].length) * max b 1 ≤ 140737488355328 := by simpa using h
    simp only [beq_self_eq_true, Bool.or_true, cond_true, cond_false, Bool.true_and, decide_eq_true h2]
    rfl
theorem bs_agg {H : Heap} {n : Nat} {cs : List PV} (h1 : flatL cs = true) (h2 : cs.length = n) : run (bs true (some n) [.agg cs]) H = some (.ok (.slice true false n [.agg cs]) H) := by
  unfold run bs isFlatElem
  have : (PV.agg cs).flat = true := by simp only [PV.flat]; exact h1
  simp [stripC, this, h2, M.pure]
theorem isTup_acc {sz : Nat} {l : List PV} : isTup (accP sz l) = false := by unfold accP; split <;> rfl
theorem low_acc {sz n : Nat} {l : List PV} : (accP sz l).low n = true := by unfold accP; split <;> simp [low_slice]
theorem cells_acc {sz : Nat} {l : List PV} : (accP sz l).cells = [accP sz l] := by unfold accP; split <;> rfl
theorem isCell_acc {sz : Nat} {l : List PV} : isCell (accP sz l) = true := by unfold accP; split <;> rfl
theorem valList_loop {b : List UInt8} {z : Bool} (hb : b.length < 2 ^ 61) {one : PV} {c : Nat} {v6 : PV} (hone : ∀ H p, hget H c = some (curB z b p) → p ≤ b.length → ∃ q, run (callV P C (strip one) []) H = outC z b c H q encV (rVal b p)) :
    ∀ (m i n p : Nat) (acc : List VT) (H : Heap), hget H c = some (curB z b p) → p ≤ b.length → n = i + m → acc.length = i → n ≤ 1000000 →
      ∃ q, run (p_entry_list_api_ValType_11111010 one v6 (accP 3 (acc.map encV)) (.int .u32 n) (.int .u32 i)) H = outC z b c H q (fun l => accP 3 ((acc ++ l).map encV)) (rRep (rVal b) m p)
  | 0, i, n, p, acc, H, hH, hp, hn, ha, hm => by
    refine ⟨p, ?_⟩
    rw [p_entry_list_api_ValType_11111010_eq]
    have c1 : ¬ (i : Int) < n := by omega
    have hset := set_self hH
    unfold rRep
    simp only [outC, hset, List.append_nil]
    simp (contextual := true) (dsimp := false) (disch := omega) only [↓goDown, goUp, List.length_cons, List.length_nil, List.map_cons, List.map_nil, List.take_succ_cons, List.take_zero, List.drop_succ_cons, List.drop_zero, List.drop_nil, List.take_nil, List.cons_append, List.nil_append, List.append_nil, List.set_cons_zero, List.set_cons_succ, List.all_cons, List.all_nil, ↓reduceIte, reduceCtorEq, ge_iff_le, gt_iff_lt, eq_self_iff_true, beq_self_eq_true, beq_iff_eq, bne_iff_ne, ne_eq, ite_not, Int.reduceEq, Option.getD_some, Option.getD_none, ite_self, Nat.reduceAdd, Nat.reduceSub, Nat.reduceMul, Nat.reduceLeDiff, Nat.reduceEqDiff, Nat.reduceBEq, Nat.reduceBNe, Int.reduceLT, Int.reduceLE, Int.reduceAdd, Int.reduceSub, Int.reduceMul, Int.reduceNeg, Int.reduceNe, Int.reduceBEq, Int.reduceBNe, Int.reduceToNat, c1, isTup_acc]
  | m + 1, i, n, p, acc, H, hH, hp, hn, ha, hm => by
    rw [p_entry_list_api_ValType_11111010_eq]
    have c1 : (i : Int) < n := by omega
    have hid := get_lt hH
    obtain ⟨q, h1⟩ := hone H p hH hp
    unfold rRep
    cases hr : rVal b p with
    | err a w =>
      rw [hr] at h1
      simp only [outC] at h1
      refine ⟨q, ?_⟩
      simp only [outC]
      simp (contextual := true) (dsimp := false) (disch := omega) only [↓goDown, goUp, List.length_cons, List.length_nil, List.map_cons, List.map_nil, List.take_succ_cons, List.take_zero, List.drop_succ_cons, List.drop_zero, List.drop_nil, List.take_nil, List.cons_append, List.nil_append, List.append_nil, List.set_cons_zero, List.set_cons_succ, List.all_cons, List.all_nil, ↓reduceIte, reduceCtorEq, ge_iff_le, gt_iff_lt, eq_self_iff_true, beq_self_eq_true, beq_iff_eq, bne_iff_ne, ne_eq, ite_not, Int.reduceEq, Option.getD_some, Option.getD_none, ite_self, Nat.reduceAdd, Nat.reduceSub, Nat.reduceMul, Nat.reduceLeDiff, Nat.reduceEqDiff, Nat.reduceBEq, Nat.reduceBNe, Int.reduceLT, Int.reduceLE, Int.reduceAdd, Int.reduceSub, Int.reduceMul, Int.reduceNeg, Int.reduceNe, Int.reduceBEq, Int.reduceBNe, Int.reduceToNat, c1, h1]
    | ok v q' =>
      rw [hr] at h1
      simp only [outC] at h1
      have hl := rVal_le hr
      obtain ⟨q2, h2⟩ := valList_loop hb hone m (i + 1) n q' (acc ++ [v]) (Pi.hset H c (curB z b q')) (get_set hid) hl (by omega) (by simp [ha]) hm
      refine ⟨q2, ?_⟩
      have hbs := fun K => bs_agg (H := K) (n := 3) (cs := [.int .i64 v.num, .bool v.nul, .int .i64 v.heap]) (by simp [flatL, PV.flat]) rfl
      have hbs : ∀ K, run (bs true (some 3) [encV v]) K = some (.ok (.slice true false 3 [encV v]) K) := hbs
      have hap := fun K => ap_acc (H := K) (sz := 3) (b := 24) (l := acc.map encV) (v := encV v) (o := true) (by simp [ha]; omega)
      have e1 : accP 3 (acc.map encV ++ [encV v]) = accP 3 ((acc ++ [v]).map encV) := by simp
      have e2 : (i : Int) + 1 = ((i + 1 : Nat) : Int) := rfl
      rw [e1] at hap
      have hrr : outC z b c (Pi.hset H c (curB z b q')) q2 (fun l => accP 3 ((acc ++ [v] ++ l).map encV)) (rRep (rVal b) m q') = outC z b c H q2 (fun l => accP 3 ((acc ++ l).map encV)) (rsCons v (rRep (rVal b) m q')) := by
        cases rRep (rVal b) m q' <;> simp only [outC, set_set, rsCons] <;> simp
      simp (contextual := true) (dsimp := false) (disch := omega) only [↓goDown, goUp, List.length_cons, List.length_nil, List.map_cons, List.map_nil, List.take_succ_cons, List.take_zero, List.drop_succ_cons, List.drop_zero, List.drop_nil, List.take_nil, List.cons_append, List.nil_append, List.append_nil, List.set_cons_zero, List.set_cons_succ, List.all_cons, List.all_nil, ↓reduceIte, reduceCtorEq, ge_iff_le, gt_iff_lt, eq_self_iff_true, beq_self_eq_true, beq_iff_eq, bne_iff_ne, ne_eq, ite_not, Int.reduceEq, Option.getD_some, Option.getD_none, ite_self, Nat.reduceAdd, Nat.reduceSub, Nat.reduceMul, Nat.reduceLeDiff, Nat.reduceEqDiff, Nat.reduceBEq, Nat.reduceBNe, Int.reduceLT, Int.reduceLE, Int.reduceAdd, Int.reduceSub, Int.reduceMul, Int.reduceNeg, Int.reduceNe, Int.reduceBEq, Int.reduceBNe, Int.reduceToNat, c1, h1, hbs, hap, e2, strip_V, stripC_V, isTup_V, low_V]
      rw [h2]
      exact hrr
theorem rU32_le {b : List UInt8} {p q v : Nat} (h : rU32 b p = .ok v q) : q ≤ b.length ∧ v < 2 ^ 32 := by have := rdU32_lt h; omega
theorem rRep_le {α : Type} {one : Nat → Rs α} {e : Nat} (h1 : ∀ p v q, one p = .ok v q → q ≤ e) : ∀ n p l q, p ≤ e → rRep one n p = .ok l q → q ≤ e ∧ l.length = n
  | 0, p, l, q, hp, h => by unfold rRep at h; cases h; exact ⟨hp, rfl⟩
  | n + 1, p, l, q, hp, h => by
    unfold rRep at h
    cases hr : one p with
    | ok v q1 =>
      rw [hr] at h
      dsimp only at h
      cases hs : rRep one n q1 with
      | ok l2 q2 =>
        rw [hs] at h
        simp only [rsCons, Rs.ok.injEq] at h
        obtain ⟨rfl, rfl⟩ := h
        obtain ⟨a1, a2⟩ := rRep_le h1 n q1 l2 q2 (h1 _ _ _ hr) hs
        exact ⟨a1, by simp [a2]⟩
      | err a w => rw [hs] at h; cases h
    | err a w => rw [hr] at h; cases h
theorem rList_le {α : Type} {b : List UInt8} {most : Nat} {one : Nat → Rs α} (h1 : ∀ p v q, one p = .ok v q → q ≤ b.length) {p : Nat} {l : List α} {q : Nat} (h : rList b most one p = .ok l q) : q ≤ b.length ∧ l.length ≤ most := by
  unfold rList at h
  cases hr : rU32 b p with
  | ok n q1 =>
    rw [hr] at h
    dsimp only at h
    have := rU32_le hr
    split at h
    · cases h
    · obtain ⟨a1, a2⟩ := rRep_le h1 n q1 l q (by omega) h
      exact ⟨a1, by omega⟩
  | err a w => rw [hr] at h; cases h
theorem valList_is {b : List UInt8} {z : Bool} (hb : b.length < 2 ^ 61) {one : PV} {c most : Nat} (hmost : most ≤ 1000000) (hone : ∀ H p, hget H c = some (curB z b p) → p ≤ b.length → ∃ q, run (callV P C (strip one) []) H = outC z b c H q encV (rVal b p))
    {H : Heap} {p : Nat} (hH : hget H c = some (curB z b p)) (hp : p ≤ b.length) :
    ∃ q, run (C k_entry_list_api_ValType [.ptr c 0, .int .u32 most, one]) H = outC z b c H q (fun l => accP 3 (l.map encV)) (rList b most (rVal b) p) := by
  have hid := get_lt hH
  have hset := set_self hH
  have hs' : Pi.hset H c (.cells [BS z b, .int .i64 p]) = H := hset
  have h1 := u32_is hH hb hp
  rw [entry_list_api_ValType_eq]
  unfold rList
  cases hr : rU32 b p with
  | err a w =>
    rw [hr] at h1
    simp only [outC, hset] at h1
    refine ⟨p, ?_⟩
    simp only [outC, hset]
    unfold curB at hH
    simp (contextual := true) (dsimp := false) (disch := omega) only [↓goDown, goUp, List.length_cons, List.length_nil, List.map_cons, List.map_nil, List.take_succ_cons, List.take_zero, List.drop_succ_cons, List.drop_zero, List.drop_nil, List.take_nil, List.cons_append, List.nil_append, List.append_nil, List.set_cons_zero, List.set_cons_succ, List.all_cons, List.all_nil, ↓reduceIte, reduceCtorEq, ge_iff_le, gt_iff_lt, eq_self_iff_true, beq_self_eq_true, beq_iff_eq, bne_iff_ne, ne_eq, ite_not, Int.reduceEq, Option.getD_some, Option.getD_none, ite_self, Nat.reduceAdd, Nat.reduceSub, Nat.reduceMul, Nat.reduceLeDiff, Nat.reduceEqDiff, Nat.reduceBEq, Nat.reduceBNe, Int.reduceLT, Int.reduceLE, Int.reduceAdd, Int.reduceSub, Int.reduceMul, Int.reduceNeg, Int.reduceNe, Int.reduceBEq, Int.reduceBNe, Int.reduceToNat, hH, hs', h1, low_flt]
  | ok n q =>
    have hn := rU32_le hr
    rw [hr] at h1
    simp only [outC] at h1
    have hH2 : hget (Pi.hset H c (curB z b q)) c = some (curB z b q) := get_set hid
    by_cases h2 : most < n
    · refine ⟨q, ?_⟩
      have c1 : (most : Int) < n := by omega
      simp only [h2, if_true, outC]
      unfold curB at hH h1 ⊢
      simp (contextual := true) (dsimp := false) (disch := omega) only [↓goDown, goUp, List.length_cons, List.length_nil, List.map_cons, List.map_nil, List.take_succ_cons, List.take_zero, List.drop_succ_cons, List.drop_zero, List.drop_nil, List.take_nil, List.cons_append, List.nil_append, List.append_nil, List.set_cons_zero, List.set_cons_succ, List.all_cons, List.all_nil, ↓reduceIte, reduceCtorEq, ge_iff_le, gt_iff_lt, eq_self_iff_true, beq_self_eq_true, beq_iff_eq, bne_iff_ne, ne_eq, ite_not, Int.reduceEq, Option.getD_some, Option.getD_none, ite_self, Nat.reduceAdd, Nat.reduceSub, Nat.reduceMul, Nat.reduceLeDiff, Nat.reduceEqDiff, Nat.reduceBEq, Nat.reduceBNe, Int.reduceLT, Int.reduceLE, Int.reduceAdd, Int.reduceSub, Int.reduceMul, Int.reduceNeg, Int.reduceNe, Int.reduceBEq, Int.reduceBNe, Int.reduceToNat, hH, hs', h1, c1, fail_is]
      rfl
    · have c1 : ¬ (most : Int) < n := by omega
      obtain ⟨q2, h3⟩ := valList_loop hb (v6 := .slice false true 0 []) hone n 0 n q [] (Pi.hset H c (curB z b q)) hH2 hn.1 (by omega) rfl (by omega)
      have h3 : run (p_entry_list_api_ValType_11111010 one (.slice false true 0 []) (.slice false true 0 []) (.int .u32 n) (.int .u32 0)) (Pi.hset H c (curB z b q)) = outC z b c (Pi.hset H c (curB z b q)) q2 (fun l => accP 3 (l.map encV)) (rRep (rVal b) n q) := h3
      refine ⟨q2, ?_⟩
      simp only [h2, if_false]
      cases hr2 : rRep (rVal b) n q <;> rw [hr2] at h3 <;> simp only [outC, set_set] at h3 ⊢ <;> unfold curB at hH h1 h3 ⊢ <;>
        simp (contextual := true) (dsimp := false) (disch := omega) only [↓goDown, goUp, List.length_cons, List.length_nil, List.map_cons, List.map_nil, List.take_succ_cons, List.take_zero, List.drop_succ_cons, List.drop_zero, List.drop_nil, List.take_nil, List.cons_append, List.nil_append, List.append_nil, List.set_cons_zero, List.set_cons_succ, List.all_cons, List.all_nil, ↓reduceIte, reduceCtorEq, ge_iff_le, gt_iff_lt, eq_self_iff_true, beq_self_eq_true, beq_iff_eq, bne_iff_ne, ne_eq, ite_not, Int.reduceEq, Option.getD_some, Option.getD_none, ite_self, Nat.reduceAdd, Nat.reduceSub, Nat.reduceMul, Nat.reduceLeDiff, Nat.reduceEqDiff, Nat.reduceBEq, Nat.reduceBNe, Int.reduceLT, Int.reduceLE, Int.reduceAdd, Int.reduceSub, Int.reduceMul, Int.reduceNeg, Int.reduceNe, Int.reduceBEq, Int.reduceBNe, Int.reduceToNat, hH, hs', h1, c1, p_entry_list_api_ValType_1111_eq, h3, low_acc, low_flt, isTup_acc]
def rVals (b : List UInt8) (p : Nat) : Rs (List VT) := rList b 1000 (rVal b) p
def encL (l : List VT) : PV := accP 3 (l.map encV)
theorem vals_is {b : List UInt8} {z : Bool} (hb : b.length < 2 ^ 61) {c : Nat} {H : Heap} {p : Nat} (hH : hget H c = some (curB z b p)) (hp : p ≤ b.length) :
    ∃ q, run (C k_entry_cursor_vals [.ptr c 0]) H = outC z b c H q encL (rVals b p) := by
  rw [entry_cursor_vals_eq]
  obtain ⟨q, h⟩ := valList_is hb (one := .fn k_entry_cursor_val [.ptr c 0] []) (most := 1000) (by omega) (fun H p hH hp => by
    obtain ⟨q, h⟩ := val_is hH hb hp
    exact ⟨q, h⟩) hH hp
  have h : run (C k_entry_list_api_ValType [.ptr c 0, .int .u32 1000, .fn k_entry_cursor_val [.ptr c 0] []]) H = outC z b c H q encL (rVals b p) := h
  refine ⟨q, ?_⟩
  have hmf : ∀ K, run (mf k_entry_cursor_val [.ptr c 0] []) K = some (.ok (.fn k_entry_cursor_val [.ptr c 0] []) K) := fun _ => rfl
  have hl : ∀ l n, (encL l).low n = true := fun _ _ => low_acc
  have ht : ∀ l, isTup (encL l) = false := fun _ => isTup_acc
  cases hr : rVals b p <;> rw [hr] at h <;> simp only [outC] at h ⊢ <;>
    simp (contextual := true) (dsimp := false) (disch := omega) only [↓goDown, goUp, List.length_cons, List.length_nil, List.map_cons, List.map_nil, List.take_succ_cons, List.take_zero, List.drop_succ_cons, List.drop_zero, List.drop_nil, List.take_nil, List.cons_append, List.nil_append, List.append_nil, List.set_cons_zero, List.set_cons_succ, List.all_cons, List.all_nil, ↓reduceIte, reduceCtorEq, ge_iff_le, gt_iff_lt, eq_self_iff_true, beq_self_eq_true, beq_iff_eq, bne_iff_ne, ne_eq, ite_not, Int.reduceEq, Option.getD_some, Option.getD_none, ite_self, Nat.reduceAdd, Nat.reduceSub, Nat.reduceMul, Nat.reduceLeDiff, Nat.reduceEqDiff, Nat.reduceBEq, Nat.reduceBNe, Int.reduceLT, Int.reduceLE, Int.reduceAdd, Int.reduceSub, Int.reduceMul, Int.reduceNeg, Int.reduceNe, Int.reduceBEq, Int.reduceBNe, Int.reduceToNat, hmf, h, low_flt, hl, ht]
structure BK where
  ty : Int
  res : VT
  deriving DecidableEq
end Go.Proofs.Ytofbbijagbpicaa.Pi.Q
namespace Go.Proofs.Ytofbbijagbpicaa.Pi.Q
open Go Go.Proofs.Ytofbbijagbpicaa.Pi
set_option linter.unusedVariables false
set_option linter.unusedSimpArgs false
set_option maxRecDepth 100000
attribute [local congr] ite_congr
theorem run_ta {H : Heap} {t : TypeId} {zv v : PV} : run (ta t zv false (.iface t v)) H = some (.ok v H) := by
  unfold run ta
  simp [M.pure]
theorem run_mf {H : Heap} {f : FuncId} {a b : List PV} : run (mf f a b) H = if (a.all isVal && b.all isVal) = true then some (.ok (.fn f (a.map stripC) (b.map stripC)) H) else none := by
  unfold run mf
  cases (a.all isVal && b.all isVal) <;> rfl
theorem bi_if {a : PV} {t : TypeId} {H : Heap} : run (bi .neq .iface (.iface t a) .niliface) H = some (.ok (.bool true) H) := nrfl rfl
theorem bi_ifn {H : Heap} : run (bi .neq .iface .niliface .niliface) H = some (.ok (.bool false) H) := nrfl rfl
theorem cutL {H : Heap} {L : List Box} (k : Nat) : hcut (hadd H L) (H.length + k) = hadd H (L.take k) := by unfold hcut hadd; rw [List.take_append, List.take_of_length_le (by omega), Nat.add_sub_cancel_left]
theorem ne_len0 {n k : Nat} : (n + (k + 1) == n) = false := by simp
def outR {α : Type} (enc : α → PV) (zero : PV) : Rs α → PV
  | .ok v p => .tup [enc v, .int .i64 p, .int .i64 0]
  | .err p e => .tup [zero, .int .i64 p, .int .i64 e]
def atPl (at_ : Int) (b : List UInt8) (zero r : PV) : PV := if at_ < 0 ∨ b.length < at_ then .tup [zero, .int .i64 0, .int .i64 1] else r
end Go.Proofs.Ytofbbijagbpicaa.Pi.Q
namespace Go.Proofs.Ytofbbijagbpicaa.Pi.Q
open Go Go.Proofs.Ytofbbijagbpicaa.Pi
set_option linter.unusedVariables false
set_option linter.unusedSimpArgs false
set_option maxRecDepth 100000
attribute [local congr] ite_congr
def rMany (b : List UInt8) (most p : Nat) : Rs Nat :=
  match rU32 b p with
  | .ok n q => if most < n then .err p 2 else .ok n q
  | .err a w => .err a w
end Go.Proofs.Ytofbbijagbpicaa.Pi.Q
namespace Go.Proofs.Ytofbbijagbpicaa.Pi.Q
open Go Go.Proofs.Ytofbbijagbpicaa.Pi
set_option linter.unusedVariables false
set_option linter.unusedSimpArgs false
set_option maxRecDepth 100000
attribute [local congr] ite_congr
theorem atPl_cases {at_ : Int} {b : List UInt8} {α : Type} {enc : α → PV} {zero : PV} {r : Rs α} (P : PV → Prop) (h1 : P (.tup [zero, .int .i64 0, .int .i64 1])) (h2 : ∀ v p, r = .ok v p → P (.tup [enc v, .int .i64 (p : Nat), .int .i64 0])) (h3 : ∀ a w, r = .err a w → P (.tup [zero, .int .i64 (a : Nat), .int .i64 (w : Nat)])) : P (atPl at_ b zero (outR enc zero r)) := by
  unfold atPl
  split
  · exact h1
  · cases hr : r with
    | ok v p => exact h2 v p hr
    | err a w => exact h3 a w hr
end Go.Proofs.Ytofbbijagbpicaa.Pi.Q
namespace Go.Proofs.Ytofbbijagbpicaa.Pi.Q
open Go Go.Proofs.Ytofbbijagbpicaa.Pi
set_option linter.unusedVariables false
set_option linter.unusedSimpArgs false
set_option maxRecDepth 100000
attribute [local congr] ite_congr
theorem ap_nil1 {H : Heap} {v : PV} : run (ap true 1 1 (.slice false true 0 []) (.slice true false 1 [v])) H = some (.ok (.slice true false 1 [v]) H) := nrfl rfl
theorem bs_byte {H : Heap} {k : IntKind} {n : Int} : run (bs true none [.int k n]) H = some (.ok (.slice true false 1 [.int k n]) H) := nrfl rfl
theorem bsR_byte {H : Heap} {k : IntKind} {n : Int} : bsR true none [.int k n] H = some (.ok (.slice true false 1 [.int k n]) H) := by simp [bsR, isFlatElem, PV.flat]
theorem cv_127 {H : Heap} {o z p : Bool} {s : Nat} : run (cv .bytesToStr p (.slice o z s [.int .u8 127])) H = some (.ok (.str ⟨#[127]⟩) H) := nrfl rfl
theorem str_eq {H : Heap} {s : ByteArray} : run (bi .eql .none (.str s) (.str s)) H = some (.ok (.bool true) H) := by
  show some (Out.ok (PV.bool (s.toList == s.toList)) H) = _
  rw [beq_self_eq_true]
theorem awake_is {H : Heap} : run (C k_ratchetlaw08_awake []) H = some (.ok (.bool true) H) := by
  rw [ratchetlaw08_awake_eq]
  simp (contextual := true) (dsimp := false) (disch := omega) only [↓goDown, goUp, List.length_cons, List.length_nil, List.map_cons, List.map_nil, List.take_succ_cons, List.take_zero, List.drop_succ_cons, List.drop_zero, List.drop_nil, List.take_nil, List.cons_append, List.nil_append, List.append_nil, List.set_cons_zero, List.set_cons_succ, List.all_cons, List.all_nil, ↓reduceIte, reduceCtorEq, ge_iff_le, gt_iff_lt, eq_self_iff_true, beq_self_eq_true, beq_iff_eq, bne_iff_ne, ne_eq, ite_not, Int.reduceEq, Option.getD_some, Option.getD_none, ite_self, Nat.reduceAdd, Nat.reduceSub, Nat.reduceMul, Nat.reduceLeDiff, Nat.reduceEqDiff, Nat.reduceBEq, Nat.reduceBNe, Int.reduceLT, Int.reduceLE, Int.reduceAdd, Int.reduceSub, Int.reduceMul, Int.reduceNeg, Int.reduceNe, Int.reduceBEq, Int.reduceBNe, Int.reduceToNat, entry_PutValType_eq, entry_PutValType_1_eq, entry_write_eq, entry_pen_val_eq, entry_pen_must_eq, entry_pen_byte_eq, entry_write_1_deq, un_not, run_mf, bi_ifn, ap_nil1, bs_byte, bsR_byte, cv_127, str_eq, cutL]
theorem neq_int {H : Heap} {k : IntKind} {n : Int} : run (bi .neq .none (.int k n) (.int k n)) H = some (.ok (.bool false) H) := by
  unfold run
  rw [bi_neq, bne_self_eq_false]
  rfl
end Go.Proofs.Ytofbbijagbpicaa.Pi.Q
namespace Go.Proofs.Ytofbbijagbpicaa.Pi.Q
open Go Go.Proofs.Ytofbbijagbpicaa.Pi
set_option linter.unusedVariables false
set_option linter.unusedSimpArgs false
set_option maxRecDepth 100000
attribute [local congr] ite_congr
def rSmall (b : List UInt8) (most p : Nat) : Rs Nat :=
  if p < b.length then if most < (b.getD p 0).toNat then .err p 4 else .ok (b.getD p 0).toNat (p + 1) else .err b.length 3
theorem rSmall_le {b : List UInt8} {most p q v : Nat} (h : rSmall b most p = .ok v q) : q ≤ b.length ∧ v ≤ most := by
  unfold rSmall at h
  split at h
  · split at h
    · cases h
    · simp only [Rs.ok.injEq] at h; omega
  · cases h
theorem small_is {H : Heap} {b : List UInt8} {z : Bool} {c p most : Nat} (hH : hget H c = some (curB z b p)) (hb : b.length < 2 ^ 61) (hp : p ≤ b.length) :
    run (C k_entry_cursor_small [.ptr c 0, .int .u8 most]) H = outC z b c H p (fun n : Nat => .int .u8 n) (rSmall b most p) := by
  have hid := get_lt hH
  have hset := set_self hH
  rw [entry_cursor_small_eq]
  unfold rSmall
  by_cases h1 : p < b.length
  · have hl := look_ok hH hb h1
    have hc := byt_lt (b.getD p 0)
    rw [if_pos h1]
    generalize (b.getD p 0).toNat = x at hl hc ⊢
    by_cases h2 : most < x
    · rw [if_pos h2]
      have c1 : (most : Int) < x := by omega
      simp only [outC, hset]
      unfold curB at hH
      simp (contextual := true) (dsimp := false) (disch := omega) only [↓goDown, goUp, List.length_cons, List.length_nil, List.map_cons, List.map_nil, List.take_succ_cons, List.take_zero, List.drop_succ_cons, List.drop_zero, List.drop_nil, List.take_nil, List.cons_append, List.nil_append, List.append_nil, List.set_cons_zero, List.set_cons_succ, List.all_cons, List.all_nil, ↓reduceIte, reduceCtorEq, ge_iff_le, gt_iff_lt, eq_self_iff_true, beq_self_eq_true, beq_iff_eq, bne_iff_ne, ne_eq, ite_not, Int.reduceEq, Option.getD_some, Option.getD_none, ite_self, Nat.reduceAdd, Nat.reduceSub, Nat.reduceMul, Nat.reduceLeDiff, Nat.reduceEqDiff, Nat.reduceBEq, Nat.reduceBNe, Int.reduceLT, Int.reduceLE, Int.reduceAdd, Int.reduceSub, Int.reduceMul, Int.reduceNeg, Int.reduceNe, Int.reduceBEq, Int.reduceBNe, Int.reduceToNat, hl, eq_true c1, hH, fail_is]
      rfl
    · rw [if_neg h2]
      have c1 : ¬ (most : Int) < x := by omega
      simp only [outC]
      unfold curB at hH ⊢
      simp (contextual := true) (dsimp := false) (disch := omega) only [↓goDown, goUp, List.length_cons, List.length_nil, List.map_cons, List.map_nil, List.take_succ_cons, List.take_zero, List.drop_succ_cons, List.drop_zero, List.drop_nil, List.take_nil, List.cons_append, List.nil_append, List.append_nil, List.set_cons_zero, List.set_cons_succ, List.all_cons, List.all_nil, ↓reduceIte, reduceCtorEq, ge_iff_le, gt_iff_lt, eq_self_iff_true, beq_self_eq_true, beq_iff_eq, bne_iff_ne, ne_eq, ite_not, Int.reduceEq, Option.getD_some, Option.getD_none, ite_self, Nat.reduceAdd, Nat.reduceSub, Nat.reduceMul, Nat.reduceLeDiff, Nat.reduceEqDiff, Nat.reduceBEq, Nat.reduceBNe, Int.reduceLT, Int.reduceLE, Int.reduceAdd, Int.reduceSub, Int.reduceMul, Int.reduceNeg, Int.reduceNe, Int.reduceBEq, Int.reduceBNe, Int.reduceToNat, hl, c1, hH, ns, p_entry_cursor_small_111_eq]
  · have hl := look_err hH hb h1
    rw [if_neg h1]
    simp only [outC, hset]
    simp (contextual := true) (dsimp := false) (disch := omega) only [↓goDown, goUp, List.length_cons, List.length_nil, List.map_cons, List.map_nil, List.take_succ_cons, List.take_zero, List.drop_succ_cons, List.drop_zero, List.drop_nil, List.take_nil, List.cons_append, List.nil_append, List.append_nil, List.set_cons_zero, List.set_cons_succ, List.all_cons, List.all_nil, ↓reduceIte, reduceCtorEq, ge_iff_le, gt_iff_lt, eq_self_iff_true, beq_self_eq_true, beq_iff_eq, bne_iff_ne, ne_eq, ite_not, Int.reduceEq, Option.getD_some, Option.getD_none, ite_self, Nat.reduceAdd, Nat.reduceSub, Nat.reduceMul, Nat.reduceLeDiff, Nat.reduceEqDiff, Nat.reduceBEq, Nat.reduceBNe, Int.reduceLT, Int.reduceLE, Int.reduceAdd, Int.reduceSub, Int.reduceMul, Int.reduceNeg, Int.reduceNe, Int.reduceBEq, Int.reduceBNe, Int.reduceToNat, hl, low_flt]
def rIndex (b : List UInt8) (p : Nat) : Rs Int :=
  match rU32 b p with
  | .ok n q => if 2147483647 < n then .err p 2 else .ok (n : Int) q
  | .err a w => .err a w
theorem rIndex_le {b : List UInt8} {p q : Nat} {v : Int} (h : rIndex b p = .ok v q) : q ≤ b.length := by
  unfold rIndex at h
  cases hr : rU32 b p with
  | ok n q1 =>
    rw [hr] at h
    dsimp only at h
    have := rU32_le hr
    split at h
    · cases h
    · simp only [Rs.ok.injEq] at h; omega
  | err a w => rw [hr] at h; cases h
theorem index_is {H : Heap} {b : List UInt8} {z : Bool} {c p : Nat} (hH : hget H c = some (curB z b p)) (hb : b.length < 2 ^ 61) (hp : p ≤ b.length) :
    ∃ q, run (C k_entry_cursor_index [.ptr c 0]) H = outC z b c H q (fun n : Int => .int .i64 n) (rIndex b p) := by
  have hid := get_lt hH
  have hset := set_self hH
  have hs' : Pi.hset H c (.cells [BS z b, .int .i64 p]) = H := hset
  have h1 := u32_is hH hb hp
  rw [entry_cursor_index_eq]
  unfold rIndex
  cases hr : rU32 b p with
  | err a w =>
    rw [hr] at h1
    simp only [outC, hset] at h1
    refine ⟨p, ?_⟩
    simp only [outC, hset]
    unfold curB at hH
    simp (contextual := true) (dsimp := false) (disch := omega) only [↓goDown, goUp, List.length_cons, List.length_nil, List.map_cons, List.map_nil, List.take_succ_cons, List.take_zero, List.drop_succ_cons, List.drop_zero, List.drop_nil, List.take_nil, List.cons_append, List.nil_append, List.append_nil, List.set_cons_zero, List.set_cons_succ, List.all_cons, List.all_nil, ↓reduceIte, reduceCtorEq, ge_iff_le, gt_iff_lt, eq_self_iff_true, beq_self_eq_true, beq_iff_eq, bne_iff_ne, ne_eq, ite_not, Int.reduceEq, Option.getD_some, Option.getD_none, ite_self, Nat.reduceAdd, Nat.reduceSub, Nat.reduceMul, Nat.reduceLeDiff, Nat.reduceEqDiff, Nat.reduceBEq, Nat.reduceBNe, Int.reduceLT, Int.reduceLE, Int.reduceAdd, Int.reduceSub, Int.reduceMul, Int.reduceNeg, Int.reduceNe, Int.reduceBEq, Int.reduceBNe, Int.reduceToNat, hH, hs', h1, low_flt]
  | ok n q =>
    have hn := rU32_le hr
    rw [hr] at h1
    simp only [outC] at h1
    refine ⟨q, ?_⟩
    by_cases h2 : 2147483647 < n
    · have c1 : (2147483647 : Int) < n := by omega
      simp only [h2, if_true, outC]
      unfold curB at hH h1 ⊢
      simp (contextual := true) (dsimp := false) (disch := omega) only [↓goDown, goUp, List.length_cons, List.length_nil, List.map_cons, List.map_nil, List.take_succ_cons, List.take_zero, List.drop_succ_cons, List.drop_zero, List.drop_nil, List.take_nil, List.cons_append, List.nil_append, List.append_nil, List.set_cons_zero, List.set_cons_succ, List.all_cons, List.all_nil, ↓reduceIte, reduceCtorEq, ge_iff_le, gt_iff_lt, eq_self_iff_true, beq_self_eq_true, beq_iff_eq, bne_iff_ne, ne_eq, ite_not, Int.reduceEq, Option.getD_some, Option.getD_none, ite_self, Nat.reduceAdd, Nat.reduceSub, Nat.reduceMul, Nat.reduceLeDiff, Nat.reduceEqDiff, Nat.reduceBEq, Nat.reduceBNe, Int.reduceLT, Int.reduceLE, Int.reduceAdd, Int.reduceSub, Int.reduceMul, Int.reduceNeg, Int.reduceNe, Int.reduceBEq, Int.reduceBNe, Int.reduceToNat, hH, hs', h1, eq_true c1, fail_is]
      rfl
    · have c1 : ¬ (2147483647 : Int) < n := by omega
      simp only [h2, if_false, outC]
      unfold curB at hH h1 ⊢
      simp (contextual := true) (dsimp := false) (disch := omega) only [↓goDown, goUp, List.length_cons, List.length_nil, List.map_cons, List.map_nil, List.take_succ_cons, List.take_zero, List.drop_succ_cons, List.drop_zero, List.drop_nil, List.take_nil, List.cons_append, List.nil_append, List.append_nil, List.set_cons_zero, List.set_cons_succ, List.all_cons, List.all_nil, ↓reduceIte, reduceCtorEq, ge_iff_le, gt_iff_lt, eq_self_iff_true, beq_self_eq_true, beq_iff_eq, bne_iff_ne, ne_eq, ite_not, Int.reduceEq, Option.getD_some, Option.getD_none, ite_self, Nat.reduceAdd, Nat.reduceSub, Nat.reduceMul, Nat.reduceLeDiff, Nat.reduceEqDiff, Nat.reduceBEq, Nat.reduceBNe, Int.reduceLT, Int.reduceLE, Int.reduceAdd, Int.reduceSub, Int.reduceMul, Int.reduceNeg, Int.reduceNe, Int.reduceBEq, Int.reduceBNe, Int.reduceToNat, hH, hs', h1, c1, p_entry_cursor_index_1111_eq]
structure FT where
  ty : VT
  mu : Bool
  deriving DecidableEq
def encF (v : FT) : PV := .agg [.int .i64 v.ty.num, .bool v.ty.nul, .int .i64 v.ty.heap, .bool v.mu]
def rFieldV (b : List UInt8) (p : Nat) : Rs VT :=
  if p < b.length then
    if (b.getD p 0).toNat = 120 then .ok ⟨6, false, 0⟩ (p + 1)
    else if (b.getD p 0).toNat = 119 then .ok ⟨7, false, 0⟩ (p + 1)
    else rVal b p
  else .err b.length 3
def rsMut (v : VT) : Rs Nat → Rs FT
  | .ok n q => .ok ⟨v, n == 1⟩ q
  | .err a w => .err a w
def rField (b : List UInt8) (p : Nat) : Rs FT :=
  match rFieldV b p with
  | .ok v q => rsMut v (rSmall b 1 q)
  | .err a w => .err a w
theorem rField_le {b : List UInt8} {p q : Nat} {v : FT} (h : rField b p = .ok v q) : q ≤ b.length := by
  unfold rField at h
  cases hr : rFieldV b p with
  | ok v q1 =>
    rw [hr] at h
    dsimp only at h
    cases hs : rSmall b 1 q1 with
    | ok n q2 => rw [hs] at h; simp only [rsMut, Rs.ok.injEq] at h; have := rSmall_le hs; omega
    | err a w => rw [hs] at h; cases h
  | err a w => rw [hr] at h; cases h
theorem field_end {H : Heap} {b : List UInt8} {z : Bool} {c q : Nat} {v : VT} (hid : c < H.length) (hb : b.length < 2 ^ 61) (hq : q ≤ b.length) :
    run (p_entry_cursor_field_111 (.ptr c 0) (.ptr H.length 0) (.ptr (H.length + 1) 0)) (hadd (Pi.hset H c (curB z b q)) [.cells [.int .i64 0, .bool false, .int .i64 0, .bool false], .cells [.int .i64 v.num, .bool v.nul, .int .i64 v.heap, .bool false]]) =
      match rsMut v (rSmall b 1 q) with
      | .ok f q2 => some (.ok (encF f) (hadd (Pi.hset H c (curB z b q2)) [.cells [.int .i64 f.ty.num, .bool f.ty.nul, .int .i64 f.ty.heap, .bool f.mu], .cells [.int .i64 f.ty.num, .bool f.ty.nul, .int .i64 f.ty.heap, .bool f.mu]]))
      | .err a w => some (.pan (flt a w) (hadd (Pi.hset H c (curB z b q)) [.cells [.int .i64 0, .bool false, .int .i64 0, .bool false], .cells [.int .i64 v.num, .bool v.nul, .int .i64 v.heap, .bool false]])) := by
  have hs : ∀ L, run (C k_entry_cursor_small [.ptr c 0, .int .u8 1]) (hadd (Pi.hset H c (curB z b q)) L) = outC z b c (hadd (Pi.hset H c (curB z b q)) L) q (fun n : Nat => .int .u8 n) (rSmall b 1 q) :=
    fun L => small_is (by rw [get_old (by rw [len_set]; exact hid)]; exact get_set hid) hb hq
  have so : ∀ u L, Pi.hset (hadd (Pi.hset H c (curB z b q)) L) c (curB z b u) = hadd (Pi.hset H c (curB z b u)) L := fun u L => by rw [set_old1 hid, set_set]
  rw [p_entry_cursor_field_111_eq]
  cases hr : rSmall b 1 q with
  | err a w =>
    simp only [hr, outC, so] at hs
    simp only [rsMut]
    simp (contextual := true) (dsimp := false) (disch := omega) only [↓goDown, goUp, List.length_cons, List.length_nil, List.map_cons, List.map_nil, List.take_succ_cons, List.take_zero, List.drop_succ_cons, List.drop_zero, List.drop_nil, List.take_nil, List.cons_append, List.nil_append, List.append_nil, List.set_cons_zero, List.set_cons_succ, List.all_cons, List.all_nil, ↓reduceIte, reduceCtorEq, ge_iff_le, gt_iff_lt, eq_self_iff_true, beq_self_eq_true, beq_iff_eq, bne_iff_ne, ne_eq, ite_not, Int.reduceEq, Option.getD_some, Option.getD_none, ite_self, Nat.reduceAdd, Nat.reduceSub, Nat.reduceMul, Nat.reduceLeDiff, Nat.reduceEqDiff, Nat.reduceBEq, Nat.reduceBNe, Int.reduceLT, Int.reduceLE, Int.reduceAdd, Int.reduceSub, Int.reduceMul, Int.reduceNeg, Int.reduceNe, Int.reduceBEq, Int.reduceBNe, Int.reduceToNat, hs]
  | ok n q2 =>
    simp only [hr, outC, so] at hs
    simp only [rsMut]
    have c1 : ((n : Int) == 1) = (n == 1) := by rw [Bool.eq_iff_iff]; simp; omega
    simp (contextual := true) (dsimp := false) (disch := omega) only [↓goDown, goUp, List.length_cons, List.length_nil, List.map_cons, List.map_nil, List.take_succ_cons, List.take_zero, List.drop_succ_cons, List.drop_zero, List.drop_nil, List.take_nil, List.cons_append, List.nil_append, List.append_nil, List.set_cons_zero, List.set_cons_succ, List.all_cons, List.all_nil, ↓reduceIte, reduceCtorEq, ge_iff_le, gt_iff_lt, eq_self_iff_true, beq_self_eq_true, beq_iff_eq, bne_iff_ne, ne_eq, ite_not, Int.reduceEq, Option.getD_some, Option.getD_none, ite_self, Nat.reduceAdd, Nat.reduceSub, Nat.reduceMul, Nat.reduceLeDiff, Nat.reduceEqDiff, Nat.reduceBEq, Nat.reduceBNe, Int.reduceLT, Int.reduceLE, Int.reduceAdd, Int.reduceSub, Int.reduceMul, Int.reduceNeg, Int.reduceNe, Int.reduceBEq, Int.reduceBNe, Int.reduceToNat, hs, c1]
    rfl
theorem field_is {H : Heap} {b : List UInt8} {z : Bool} {c p : Nat} (hH : hget H c = some (curB z b p)) (hb : b.length < 2 ^ 61) (hp : p ≤ b.length) :
    ∃ q, run (C k_entry_cursor_field [.ptr c 0]) H = outC z b c H q encF (rField b p) := by
  have hid := get_lt hH
  have hset := set_self hH
  rw [entry_cursor_field_eq]
  unfold rField rFieldV
  have hH1 : ∀ L, hget (hadd H L) c = some (curB z b p) := fun L => by rw [get_old hid]; exact hH
  have so : ∀ u L, Pi.hset (hadd H L) c (curB z b u) = hadd (Pi.hset H c (curB z b u)) L := fun u L => by rw [set_old hid]
  by_cases h1 : p < b.length
  · have hl := fun L => look_ok (hH1 L) hb h1
    have hc := byt_lt (b.getD p 0)
    rw [if_pos h1]
    generalize (b.getD p 0).toNat = x at hl hc ⊢
    by_cases h2 : x = 120
    · rw [if_pos h2]
      have c1 : (x : Int) = 120 := by omega
      have hf := field_end (z := z) (v := ⟨6, false, 0⟩) hid hb (show p + 1 ≤ b.length by omega)
      unfold curB at hf
      simp only [ns] at hf
      refine ⟨p + 1, ?_⟩
      cases hr : rSmall b 1 (p + 1) <;> simp only [hr, rsMut] at hf ⊢ <;> simp only [outC] <;> unfold curB at hH ⊢ <;>
        simp (contextual := true) (dsimp := false) (disch := omega) only [↓goDown, goUp, List.length_cons, List.length_nil, List.map_cons, List.map_nil, List.take_succ_cons, List.take_zero, List.drop_succ_cons, List.drop_zero, List.drop_nil, List.take_nil, List.cons_append, List.nil_append, List.append_nil, List.set_cons_zero, List.set_cons_succ, List.all_cons, List.all_nil, ↓reduceIte, reduceCtorEq, ge_iff_le, gt_iff_lt, eq_self_iff_true, beq_self_eq_true, beq_iff_eq, bne_iff_ne, ne_eq, ite_not, Int.reduceEq, Option.getD_some, Option.getD_none, ite_self, Nat.reduceAdd, Nat.reduceSub, Nat.reduceMul, Nat.reduceLeDiff, Nat.reduceEqDiff, Nat.reduceBEq, Nat.reduceBNe, Int.reduceLT, Int.reduceLE, Int.reduceAdd, Int.reduceSub, Int.reduceMul, Int.reduceNeg, Int.reduceNe, Int.reduceBEq, Int.reduceBNe, Int.reduceToNat, hl, eq_true c1, hH, ns, hf, low_flt, encF]
    · rw [if_neg h2]
      have c1 : ¬ (x : Int) = 120 := by omega
      by_cases h3 : x = 119
      · rw [if_pos h3]
        have c2 : (x : Int) = 119 := by omega
        have hf := field_end (z := z) (v := ⟨7, false, 0⟩) hid hb (show p + 1 ≤ b.length by omega)
        unfold curB at hf
        simp only [ns] at hf
        refine ⟨p + 1, ?_⟩
        cases hr : rSmall b 1 (p + 1) <;> simp only [hr, rsMut] at hf ⊢ <;> simp only [outC] <;> unfold curB at hH ⊢ <;>
          simp (contextual := true) (dsimp := false) (disch := omega) only [↓goDown, goUp, List.length_cons, List.length_nil, List.map_cons, List.map_nil, List.take_succ_cons, List.take_zero, List.drop_succ_cons, List.drop_zero, List.drop_nil, List.take_nil, List.cons_append, List.nil_append, List.append_nil, List.set_cons_zero, List.set_cons_succ, List.all_cons, List.all_nil, ↓reduceIte, reduceCtorEq, ge_iff_le, gt_iff_lt, eq_self_iff_true, beq_self_eq_true, beq_iff_eq, bne_iff_ne, ne_eq, ite_not, Int.reduceEq, Option.getD_some, Option.getD_none, ite_self, Nat.reduceAdd, Nat.reduceSub, Nat.reduceMul, Nat.reduceLeDiff, Nat.reduceEqDiff, Nat.reduceBEq, Nat.reduceBNe, Int.reduceLT, Int.reduceLE, Int.reduceAdd, Int.reduceSub, Int.reduceMul, Int.reduceNeg, Int.reduceNe, Int.reduceBEq, Int.reduceBNe, Int.reduceToNat, hl, c1, eq_true c2, hH, ns, hf, low_flt, encF]
      · rw [if_neg h3]
        have c2 : ¬ (x : Int) = 119 := by omega
        obtain ⟨q, hk⟩ := val_is (hH1 [.cells [.int .i64 0, .bool false, .int .i64 0, .bool false], .cells [.int .i64 0, .bool false, .int .i64 0, .bool false]]) hb hp
        cases hr : rVal b p with
        | err a w =>
          refine ⟨q, ?_⟩
          simp only [hr, outC, so] at hk ⊢
          simp (contextual := true) (dsimp := false) (disch := omega) only [↓goDown, goUp, List.length_cons, List.length_nil, List.map_cons, List.map_nil, List.take_succ_cons, List.take_zero, List.drop_succ_cons, List.drop_zero, List.drop_nil, List.take_nil, List.cons_append, List.nil_append, List.append_nil, List.set_cons_zero, List.set_cons_succ, List.all_cons, List.all_nil, ↓reduceIte, reduceCtorEq, ge_iff_le, gt_iff_lt, eq_self_iff_true, beq_self_eq_true, beq_iff_eq, bne_iff_ne, ne_eq, ite_not, Int.reduceEq, Option.getD_some, Option.getD_none, ite_self, Nat.reduceAdd, Nat.reduceSub, Nat.reduceMul, Nat.reduceLeDiff, Nat.reduceEqDiff, Nat.reduceBEq, Nat.reduceBNe, Int.reduceLT, Int.reduceLE, Int.reduceAdd, Int.reduceSub, Int.reduceMul, Int.reduceNeg, Int.reduceNe, Int.reduceBEq, Int.reduceBNe, Int.reduceToNat, hl, c1, c2, hk, low_flt]
        | ok v q1 =>
          have hf := field_end (z := z) (v := v) hid hb (rVal_le hr)
          refine ⟨q1, ?_⟩
          simp only [hr, outC, so] at hk ⊢
          cases hs : rSmall b 1 q1 <;> simp only [hs, rsMut] at hf ⊢ <;>
            simp (contextual := true) (dsimp := false) (disch := omega) only [↓goDown, goUp, List.length_cons, List.length_nil, List.map_cons, List.map_nil, List.take_succ_cons, List.take_zero, List.drop_succ_cons, List.drop_zero, List.drop_nil, List.take_nil, List.cons_append, List.nil_append, List.append_nil, List.set_cons_zero, List.set_cons_succ, List.all_cons, List.all_nil, ↓reduceIte, reduceCtorEq, ge_iff_le, gt_iff_lt, eq_self_iff_true, beq_self_eq_true, beq_iff_eq, bne_iff_ne, ne_eq, ite_not, Int.reduceEq, Option.getD_some, Option.getD_none, ite_self, Nat.reduceAdd, Nat.reduceSub, Nat.reduceMul, Nat.reduceLeDiff, Nat.reduceEqDiff, Nat.reduceBEq, Nat.reduceBNe, Int.reduceLT, Int.reduceLE, Int.reduceAdd, Int.reduceSub, Int.reduceMul, Int.reduceNeg, Int.reduceNe, Int.reduceBEq, Int.reduceBNe, Int.reduceToNat, hl, c1, c2, hk, cells_V, hf, low_flt, encF]
  · refine ⟨p, ?_⟩
    have hl := fun L => look_err (hH1 L) hb h1
    rw [if_neg h1]
    simp only [outC, hset]
    simp (contextual := true) (dsimp := false) (disch := omega) only [↓goDown, goUp, List.length_cons, List.length_nil, List.map_cons, List.map_nil, List.take_succ_cons, List.take_zero, List.drop_succ_cons, List.drop_zero, List.drop_nil, List.take_nil, List.cons_append, List.nil_append, List.append_nil, List.set_cons_zero, List.set_cons_succ, List.all_cons, List.all_nil, ↓reduceIte, reduceCtorEq, ge_iff_le, gt_iff_lt, eq_self_iff_true, beq_self_eq_true, beq_iff_eq, bne_iff_ne, ne_eq, ite_not, Int.reduceEq, Option.getD_some, Option.getD_none, ite_self, Nat.reduceAdd, Nat.reduceSub, Nat.reduceMul, Nat.reduceLeDiff, Nat.reduceEqDiff, Nat.reduceBEq, Nat.reduceBNe, Int.reduceLT, Int.reduceLE, Int.reduceAdd, Int.reduceSub, Int.reduceMul, Int.reduceNeg, Int.reduceNe, Int.reduceBEq, Int.reduceBNe, Int.reduceToNat, hl, low_flt]
end Go.Proofs.Ytofbbijagbpicaa.Pi.Q
namespace Go.Proofs.Ytofbbijagbpicaa.Pi.Q
open Go Go.Proofs.Ytofbbijagbpicaa.Pi
set_option linter.unusedVariables false
set_option linter.unusedSimpArgs false
set_option maxRecDepth 100000
attribute [local congr] ite_congr
theorem strip_F {v : FT} : strip (encF v) = encF v := nrfl rfl
theorem stripC_F {v : FT} : stripC (encF v) = encF v := nrfl rfl
theorem isTup_F {v : FT} : isTup (encF v) = false := nrfl rfl
theorem low_F {v : FT} {n : Nat} : (encF v).low n = true := by simp [encF, low_agg, lowL_cons, lowL_nil, low_int, low_bool]
theorem bs_F {v : FT} {K : Heap} : run (bs true (some 4) [encF v]) K = some (.ok (.slice true false 4 [encF v]) K) := bs_agg (by simp [flatL, PV.flat]) rfl
theorem bs_I {v : Int} {K : Heap} : run (bs true none [.int .i64 v]) K = some (.ok (.slice true false 1 [.int .i64 v]) K) := nrfl rfl
abbrev encI (v : Int) : PV := .int .i64 v
def shutP (sz : Nat) (l : List PV) : PV := match l with | [] => .slice false true 0 [] | l => .slice false false sz l
theorem shutP_nil {sz : Nat} : shutP sz [] = .slice false true 0 [] := nrfl rfl
theorem isTup_P {sz : Nat} {l : List PV} : isTup (shutP sz l) = false := by cases l <;> rfl
theorem isCell_P {sz : Nat} {l : List PV} : isCell (shutP sz l) = true := by cases l <;> rfl
theorem cells_P {sz : Nat} {l : List PV} : (shutP sz l).cells = [shutP sz l] := by cases l <;> rfl
theorem low_P {sz : Nat} {l : List PV} {n : Nat} : (shutP sz l).low n = true := by cases l <;> simp [shutP, low_slice]
theorem strip_P {sz : Nat} {l : List PV} : strip (shutP sz l) = shutP sz l := by cases l <;> rfl
theorem stripC_P {sz : Nat} {l : List PV} : stripC (shutP sz l) = shutP sz l := by cases l <;> rfl
theorem stripC_acc {sz : Nat} {l : List PV} : stripC (accP sz l) = shutP sz l := by cases l <;> rfl
structure CT where
  kind : Int
  ps : List VT
  rs : List VT
  fs : List FT
  deriving DecidableEq
structure ST where
  fin : Bool
  sup : List Int
  comp : CT
  deriving DecidableEq
def csC (v : CT) : List PV := [.int .i64 v.kind, shutP 3 (v.ps.map encV), shutP 3 (v.rs.map encV), shutP 4 (v.fs.map encF)]
def encC (v : CT) : PV := .agg (csC v)
def csS (v : ST) : List PV := [.bool v.fin, shutP 1 (v.sup.map encI), .int .i64 v.comp.kind, shutP 3 (v.comp.ps.map encV), shutP 3 (v.comp.rs.map encV), shutP 4 (v.comp.fs.map encF)]
def encS (v : ST) : PV := .agg (csS v)
theorem isTup_C {v : CT} : isTup (encC v) = false := nrfl rfl
theorem isTup_Su {v : ST} : isTup (encS v) = false := nrfl rfl
theorem strip_C {v : CT} : strip (encC v) = encC v := nrfl rfl
theorem stripC_C {v : CT} : stripC (encC v) = encC v := nrfl rfl
theorem strip_Su {v : ST} : strip (encS v) = encS v := nrfl rfl
theorem stripC_Su {v : ST} : stripC (encS v) = encS v := nrfl rfl
theorem low_C {v : CT} {n : Nat} : (encC v).low n = true := by simp [encC, csC, low_agg, lowL_cons, lowL_nil, low_int, low_P]
theorem low_Su {v : ST} {n : Nat} : (encS v).low n = true := by simp [encS, csS, low_agg, lowL_cons, lowL_nil, low_int, low_bool, low_P]
theorem flatL_V {l : List VT} : flatL (l.map encV) = true := by induction l with | nil => rfl | cons v r ih => simp [flatL, encV, PV.flat, ih]
theorem flatL_F {l : List FT} : flatL (l.map encF) = true := by induction l with | nil => rfl | cons v r ih => simp [flatL, encF, PV.flat, ih]
theorem flatL_I {l : List Int} : flatL (l.map encI) = true := by induction l with | nil => rfl | cons v r ih => simp [flatL, encI, PV.flat, ih]
theorem bs_S {v : ST} {K : Heap} : run (bs true (some 6) [encS v]) K = some (.ok (.slice true false 6 [encS v]) K) := by
  refine bs_agg ?_ rfl
  have hp : ∀ {sz : Nat} {l : List PV}, flatL l = true → (shutP sz l).flat = true := by
    intro sz l h
    cases l with
    | nil => simp [shutP, PV.flat, flatL]
    | cons x r => simp [shutP, PV.flat, h]
  simp [flatL, PV.flat, csS, hp flatL_V, hp flatL_F, hp flatL_I]
theorem fieldList_loop {b : List UInt8} {z : Bool} (hb : b.length < 2 ^ 61) {rd : Nat → Rs FT} (hle : ∀ p v q, rd p = .ok v q → q ≤ b.length) {one : PV} {c : Nat} {v6 : PV} (hone : ∀ H p, hget H c = some (curB z b p) → p ≤ b.length → ∃ q, run (callV P C (strip one) []) H = outC z b c H q encF (rd p)) :
    ∀ (m i n p : Nat) (acc : List FT) (H : Heap), hget H c = some (curB z b p) → p ≤ b.length → n = i + m → acc.length = i → n ≤ 1000000 →
      ∃ q, run (p_entry_list_api_Field_11111010 one v6 (accP 4 (acc.map encF)) (.int .u32 n) (.int .u32 i)) H = outC z b c H q (fun l => accP 4 ((acc ++ l).map encF)) (rRep rd m p)
  | 0, i, n, p, acc, H, hH, hp, hn, ha, hm => by
    refine ⟨p, ?_⟩
    rw [p_entry_list_api_Field_11111010_eq]
    have c1 : ¬ (i : Int) < n := by omega
    have hset := set_self hH
    unfold rRep
    simp only [outC, hset, List.append_nil]
    simp (contextual := true) (dsimp := false) (disch := omega) only [↓goDown, goUp, List.length_cons, List.length_nil, List.map_cons, List.map_nil, List.take_succ_cons, List.take_zero, List.drop_succ_cons, List.drop_zero, List.drop_nil, List.take_nil, List.cons_append, List.nil_append, List.append_nil, List.set_cons_zero, List.set_cons_succ, List.all_cons, List.all_nil, ↓reduceIte, reduceCtorEq, ge_iff_le, gt_iff_lt, eq_self_iff_true, beq_self_eq_true, beq_iff_eq, bne_iff_ne, ne_eq, ite_not, Int.reduceEq, Option.getD_some, Option.getD_none, ite_self, Nat.reduceAdd, Nat.reduceSub, Nat.reduceMul, Nat.reduceLeDiff, Nat.reduceEqDiff, Nat.reduceBEq, Nat.reduceBNe, Int.reduceLT, Int.reduceLE, Int.reduceAdd, Int.reduceSub, Int.reduceMul, Int.reduceNeg, Int.reduceNe, Int.reduceBEq, Int.reduceBNe, Int.reduceToNat, c1, isTup_acc]
  | m + 1, i, n, p, acc, H, hH, hp, hn, ha, hm => by
    rw [p_entry_list_api_Field_11111010_eq]
    have c1 : (i : Int) < n := by omega
    have hid := get_lt hH
    obtain ⟨q, h1⟩ := hone H p hH hp
    unfold rRep
    cases hr : rd p with
    | err a w =>
      rw [hr] at h1
      simp only [outC] at h1
      refine ⟨q, ?_⟩
      simp only [outC]
      simp (contextual := true) (dsimp := false) (disch := omega) only [↓goDown, goUp, List.length_cons, List.length_nil, List.map_cons, List.map_nil, List.take_succ_cons, List.take_zero, List.drop_succ_cons, List.drop_zero, List.drop_nil, List.take_nil, List.cons_append, List.nil_append, List.append_nil, List.set_cons_zero, List.set_cons_succ, List.all_cons, List.all_nil, ↓reduceIte, reduceCtorEq, ge_iff_le, gt_iff_lt, eq_self_iff_true, beq_self_eq_true, beq_iff_eq, bne_iff_ne, ne_eq, ite_not, Int.reduceEq, Option.getD_some, Option.getD_none, ite_self, Nat.reduceAdd, Nat.reduceSub, Nat.reduceMul, Nat.reduceLeDiff, Nat.reduceEqDiff, Nat.reduceBEq, Nat.reduceBNe, Int.reduceLT, Int.reduceLE, Int.reduceAdd, Int.reduceSub, Int.reduceMul, Int.reduceNeg, Int.reduceNe, Int.reduceBEq, Int.reduceBNe, Int.reduceToNat, c1, h1]
    | ok v q' =>
      rw [hr] at h1
      simp only [outC] at h1
      have hl := hle _ _ _ hr
      obtain ⟨q2, h2⟩ := fieldList_loop hb hle hone m (i + 1) n q' (acc ++ [v]) (Pi.hset H c (curB z b q')) (get_set hid) hl (by omega) (by simp [ha]) hm
      refine ⟨q2, ?_⟩
      have hbs := fun K => bs_F (v := v) (K := K)
      have hap := fun K => ap_acc (H := K) (sz := 4) (b := 32) (l := acc.map encF) (v := encF v) (o := true) (by simp [ha]; omega)
      have e1 : accP 4 (acc.map encF ++ [encF v]) = accP 4 ((acc ++ [v]).map encF) := by simp
      have e2 : (i : Int) + 1 = ((i + 1 : Nat) : Int) := rfl
      rw [e1] at hap
      have hrr : outC z b c (Pi.hset H c (curB z b q')) q2 (fun l => accP 4 ((acc ++ [v] ++ l).map encF)) (rRep rd m q') = outC z b c H q2 (fun l => accP 4 ((acc ++ l).map encF)) (rsCons v (rRep rd m q')) := by
        cases rRep rd m q' <;> simp only [outC, set_set, rsCons] <;> simp
      simp (contextual := true) (dsimp := false) (disch := omega) only [↓goDown, goUp, List.length_cons, List.length_nil, List.map_cons, List.map_nil, List.take_succ_cons, List.take_zero, List.drop_succ_cons, List.drop_zero, List.drop_nil, List.take_nil, List.cons_append, List.nil_append, List.append_nil, List.set_cons_zero, List.set_cons_succ, List.all_cons, List.all_nil, ↓reduceIte, reduceCtorEq, ge_iff_le, gt_iff_lt, eq_self_iff_true, beq_self_eq_true, beq_iff_eq, bne_iff_ne, ne_eq, ite_not, Int.reduceEq, Option.getD_some, Option.getD_none, ite_self, Nat.reduceAdd, Nat.reduceSub, Nat.reduceMul, Nat.reduceLeDiff, Nat.reduceEqDiff, Nat.reduceBEq, Nat.reduceBNe, Int.reduceLT, Int.reduceLE, Int.reduceAdd, Int.reduceSub, Int.reduceMul, Int.reduceNeg, Int.reduceNe, Int.reduceBEq, Int.reduceBNe, Int.reduceToNat, c1, h1, hbs, hap, e2, strip_F, stripC_F, isTup_F, low_F]
      rw [h2]
      exact hrr
theorem fieldList_is {b : List UInt8} {z : Bool} (hb : b.length < 2 ^ 61) {rd : Nat → Rs FT} (hle : ∀ p v q, rd p = .ok v q → q ≤ b.length) {one : PV} {c most : Nat} (hmost : most ≤ 1000000) (hone : ∀ H p, hget H c = some (curB z b p) → p ≤ b.length → ∃ q, run (callV P C (strip one) []) H = outC z b c H q encF (rd p))
    {H : Heap} {p : Nat} (hH : hget H c = some (curB z b p)) (hp : p ≤ b.length) :
    ∃ q, run (C k_entry_list_api_Field [.ptr c 0, .int .u32 most, one]) H = outC z b c H q (fun l => accP 4 (l.map encF)) (rList b most rd p) := by
  have hid := get_lt hH
  have hset := set_self hH
  have hs' : Pi.hset H c (.cells [BS z b, .int .i64 p]) = H := hset
  have h1 := u32_is hH hb hp
  rw [entry_list_api_Field_eq]
  unfold rList
  cases hr : rU32 b p with
  | err a w =>
    rw [hr] at h1
    simp only [outC, hset] at h1
    refine ⟨p, ?_⟩
    simp only [outC, hset]
    unfold curB at hH
    simp (contextual := true) (dsimp := false) (disch := omega) only [↓goDown, goUp, List.length_cons, List.length_nil, List.map_cons, List.map_nil, List.take_succ_cons, List.take_zero, List.drop_succ_cons, List.drop_zero, List.drop_nil, List.take_nil, List.cons_append, List.nil_append, List.append_nil, List.set_cons_zero, List.set_cons_succ, List.all_cons, List.all_nil, ↓reduceIte, reduceCtorEq, ge_iff_le, gt_iff_lt, eq_self_iff_true, beq_self_eq_true, beq_iff_eq, bne_iff_ne, ne_eq, ite_not, Int.reduceEq, Option.getD_some, Option.getD_none, ite_self, Nat.reduceAdd, Nat.reduceSub, Nat.reduceMul, Nat.reduceLeDiff, Nat.reduceEqDiff, Nat.reduceBEq, Nat.reduceBNe, Int.reduceLT, Int.reduceLE, Int.reduceAdd, Int.reduceSub, Int.reduceMul, Int.reduceNeg, Int.reduceNe, Int.reduceBEq, Int.reduceBNe, Int.reduceToNat, hH, hs', h1, low_flt]
  | ok n q =>
    have hn := rU32_le hr
    rw [hr] at h1
    simp only [outC] at h1
    have hH2 : hget (Pi.hset H c (curB z b q)) c = some (curB z b q) := get_set hid
    by_cases h2 : most < n
    · refine ⟨q, ?_⟩
      have c1 : (most : Int) < n := by omega
      simp only [h2, if_true, outC]
      unfold curB at hH h1 ⊢
      simp (contextual := true) (dsimp := false) (disch := omega) only [↓goDown, goUp, List.length_cons, List.length_nil, List.map_cons, List.map_nil, List.take_succ_cons, List.take_zero, List.drop_succ_cons, List.drop_zero, List.drop_nil, List.take_nil, List.cons_append, List.nil_append, List.append_nil, List.set_cons_zero, List.set_cons_succ, List.all_cons, List.all_nil, ↓reduceIte, reduceCtorEq, ge_iff_le, gt_iff_lt, eq_self_iff_true, beq_self_eq_true, beq_iff_eq, bne_iff_ne, ne_eq, ite_not, Int.reduceEq, Option.getD_some, Option.getD_none, ite_self, Nat.reduceAdd, Nat.reduceSub, Nat.reduceMul, Nat.reduceLeDiff, Nat.reduceEqDiff, Nat.reduceBEq, Nat.reduceBNe, Int.reduceLT, Int.reduceLE, Int.reduceAdd, Int.reduceSub, Int.reduceMul, Int.reduceNeg, Int.reduceNe, Int.reduceBEq, Int.reduceBNe, Int.reduceToNat, hH, hs', h1, c1, fail_is]
      rfl
    · have c1 : ¬ (most : Int) < n := by omega
      obtain ⟨q2, h3⟩ := fieldList_loop hb hle (v6 := .slice false true 0 []) hone n 0 n q [] (Pi.hset H c (curB z b q)) hH2 hn.1 (by omega) rfl (by omega)
      have h3 : run (p_entry_list_api_Field_11111010 one (.slice false true 0 []) (.slice false true 0 []) (.int .u32 n) (.int .u32 0)) (Pi.hset H c (curB z b q)) = outC z b c (Pi.hset H c (curB z b q)) q2 (fun l => accP 4 (l.map encF)) (rRep rd n q) := h3
      refine ⟨q2, ?_⟩
      simp only [h2, if_false]
      cases hr2 : rRep rd n q <;> rw [hr2] at h3 <;> simp only [outC, set_set] at h3 ⊢ <;> unfold curB at hH h1 h3 ⊢ <;>
        simp (contextual := true) (dsimp := false) (disch := omega) only [↓goDown, goUp, List.length_cons, List.length_nil, List.map_cons, List.map_nil, List.take_succ_cons, List.take_zero, List.drop_succ_cons, List.drop_zero, List.drop_nil, List.take_nil, List.cons_append, List.nil_append, List.append_nil, List.set_cons_zero, List.set_cons_succ, List.all_cons, List.all_nil, ↓reduceIte, reduceCtorEq, ge_iff_le, gt_iff_lt, eq_self_iff_true, beq_self_eq_true, beq_iff_eq, bne_iff_ne, ne_eq, ite_not, Int.reduceEq, Option.getD_some, Option.getD_none, ite_self, Nat.reduceAdd, Nat.reduceSub, Nat.reduceMul, Nat.reduceLeDiff, Nat.reduceEqDiff, Nat.reduceBEq, Nat.reduceBNe, Int.reduceLT, Int.reduceLE, Int.reduceAdd, Int.reduceSub, Int.reduceMul, Int.reduceNeg, Int.reduceNe, Int.reduceBEq, Int.reduceBNe, Int.reduceToNat, hH, hs', h1, c1, p_entry_list_api_Field_1111_eq, h3, low_acc, low_flt, isTup_acc]
theorem intList_loop {b : List UInt8} {z : Bool} (hb : b.length < 2 ^ 61) {rd : Nat → Rs Int} (hle : ∀ p v q, rd p = .ok v q → q ≤ b.length) {one : PV} {c : Nat} {v6 : PV} (hone : ∀ H p, hget H c = some (curB z b p) → p ≤ b.length → ∃ q, run (callV P C (strip one) []) H = outC z b c H q encI (rd p)) :
    ∀ (m i n p : Nat) (acc : List Int) (H : Heap), hget H c = some (curB z b p) → p ≤ b.length → n = i + m → acc.length = i → n ≤ 1000000 →
      ∃ q, run (p_entry_list_int_11111010 one v6 (accP 1 (acc.map encI)) (.int .u32 n) (.int .u32 i)) H = outC z b c H q (fun l => accP 1 ((acc ++ l).map encI)) (rRep rd m p)
  | 0, i, n, p, acc, H, hH, hp, hn, ha, hm => by
    refine ⟨p, ?_⟩
    rw [p_entry_list_int_11111010_eq]
    have c1 : ¬ (i : Int) < n := by omega
    have hset := set_self hH
    unfold rRep
    simp only [outC, hset, List.append_nil]
    simp (contextual := true) (dsimp := false) (disch := omega) only [↓goDown, goUp, List.length_cons, List.length_nil, List.map_cons, List.map_nil, List.take_succ_cons, List.take_zero, List.drop_succ_cons, List.drop_zero, List.drop_nil, List.take_nil, List.cons_append, List.nil_append, List.append_nil, List.set_cons_zero, List.set_cons_succ, List.all_cons, List.all_nil, ↓reduceIte, reduceCtorEq, ge_iff_le, gt_iff_lt, eq_self_iff_true, beq_self_eq_true, beq_iff_eq, bne_iff_ne, ne_eq, ite_not, Int.reduceEq, Option.getD_some, Option.getD_none, ite_self, Nat.reduceAdd, Nat.reduceSub, Nat.reduceMul, Nat.reduceLeDiff, Nat.reduceEqDiff, Nat.reduceBEq, Nat.reduceBNe, Int.reduceLT, Int.reduceLE, Int.reduceAdd, Int.reduceSub, Int.reduceMul, Int.reduceNeg, Int.reduceNe, Int.reduceBEq, Int.reduceBNe, Int.reduceToNat, c1, isTup_acc]
  | m + 1, i, n, p, acc, H, hH, hp, hn, ha, hm => by
    rw [p_entry_list_int_11111010_eq]
    have c1 : (i : Int) < n := by omega
    have hid := get_lt hH
    obtain ⟨q, h1⟩ := hone H p hH hp
    unfold rRep
    cases hr : rd p with
    | err a w =>
      rw [hr] at h1
      simp only [outC] at h1
      refine ⟨q, ?_⟩
      simp only [outC]
      simp (contextual := true) (dsimp := false) (disch := omega) only [↓goDown, goUp, List.length_cons, List.length_nil, List.map_cons, List.map_nil, List.take_succ_cons, List.take_zero, List.drop_succ_cons, List.drop_zero, List.drop_nil, List.take_nil, List.cons_append, List.nil_append, List.append_nil, List.set_cons_zero, List.set_cons_succ, List.all_cons, List.all_nil, ↓reduceIte, reduceCtorEq, ge_iff_le, gt_iff_lt, eq_self_iff_true, beq_self_eq_true, beq_iff_eq, bne_iff_ne, ne_eq, ite_not, Int.reduceEq, Option.getD_some, Option.getD_none, ite_self, Nat.reduceAdd, Nat.reduceSub, Nat.reduceMul, Nat.reduceLeDiff, Nat.reduceEqDiff, Nat.reduceBEq, Nat.reduceBNe, Int.reduceLT, Int.reduceLE, Int.reduceAdd, Int.reduceSub, Int.reduceMul, Int.reduceNeg, Int.reduceNe, Int.reduceBEq, Int.reduceBNe, Int.reduceToNat, c1, h1]
    | ok v q' =>
      rw [hr] at h1
      simp only [outC] at h1
      have hl := hle _ _ _ hr
      obtain ⟨q2, h2⟩ := intList_loop hb hle hone m (i + 1) n q' (acc ++ [v]) (Pi.hset H c (curB z b q')) (get_set hid) hl (by omega) (by simp [ha]) hm
      refine ⟨q2, ?_⟩
      have hbs := fun K => bs_I (v := v) (K := K)
      have hap := fun K => ap_acc (H := K) (sz := 1) (b := 8) (l := acc.map encI) (v := encI v) (o := true) (by simp [ha]; omega)
      have e1 : accP 1 (acc.map encI ++ [encI v]) = accP 1 ((acc ++ [v]).map encI) := by simp
      have e2 : (i : Int) + 1 = ((i + 1 : Nat) : Int) := rfl
      rw [e1] at hap
      have hrr : outC z b c (Pi.hset H c (curB z b q')) q2 (fun l => accP 1 ((acc ++ [v] ++ l).map encI)) (rRep rd m q') = outC z b c H q2 (fun l => accP 1 ((acc ++ l).map encI)) (rsCons v (rRep rd m q')) := by
        cases rRep rd m q' <;> simp only [outC, set_set, rsCons] <;> simp
      simp (contextual := true) (dsimp := false) (disch := omega) only [↓goDown, goUp, List.length_cons, List.length_nil, List.map_cons, List.map_nil, List.take_succ_cons, List.take_zero, List.drop_succ_cons, List.drop_zero, List.drop_nil, List.take_nil, List.cons_append, List.nil_append, List.append_nil, List.set_cons_zero, List.set_cons_succ, List.all_cons, List.all_nil, ↓reduceIte, reduceCtorEq, ge_iff_le, gt_iff_lt, eq_self_iff_true, beq_self_eq_true, beq_iff_eq, bne_iff_ne, ne_eq, ite_not, Int.reduceEq, Option.getD_some, Option.getD_none, ite_self, Nat.reduceAdd, Nat.reduceSub, Nat.reduceMul, Nat.reduceLeDiff, Nat.reduceEqDiff, Nat.reduceBEq, Nat.reduceBNe, Int.reduceLT, Int.reduceLE, Int.reduceAdd, Int.reduceSub, Int.reduceMul, Int.reduceNeg, Int.reduceNe, Int.reduceBEq, Int.reduceBNe, Int.reduceToNat, c1, h1, hbs, hap, e2, strip_int, stripC_int, isTup_int, low_int]
      rw [h2]
      exact hrr
theorem intList_is {b : List UInt8} {z : Bool} (hb : b.length < 2 ^ 61) {rd : Nat → Rs Int} (hle : ∀ p v q, rd p = .ok v q → q ≤ b.length) {one : PV} {c most : Nat} (hmost : most ≤ 1000000) (hone : ∀ H p, hget H c = some (curB z b p) → p ≤ b.length → ∃ q, run (callV P C (strip one) []) H = outC z b c H q encI (rd p))
    {H : Heap} {p : Nat} (hH : hget H c = some (curB z b p)) (hp : p ≤ b.length) :
    ∃ q, run (C k_entry_list_int [.ptr c 0, .int .u32 most, one]) H = outC z b c H q (fun l => accP 1 (l.map encI)) (rList b most rd p) := by
  have hid := get_lt hH
  have hset := set_self hH
  have hs' : Pi.hset H c (.cells [BS z b, .int .i64 p]) = H := hset
  have h1 := u32_is hH hb hp
  rw [entry_list_int_eq]
  unfold rList
  cases hr : rU32 b p with
  | err a w =>
    rw [hr] at h1
    simp only [outC, hset] at h1
    refine ⟨p, ?_⟩
    simp only [outC, hset]
    unfold curB at hH
    simp (contextual := true) (dsimp := false) (disch := omega) only [↓goDown, goUp, List.length_cons, List.length_nil, List.map_cons, List.map_nil, List.take_succ_cons, List.take_zero, List.drop_succ_cons, List.drop_zero, List.drop_nil, List.take_nil, List.cons_append, List.nil_append, List.append_nil, List.set_cons_zero, List.set_cons_succ, List.all_cons, List.all_nil, ↓reduceIte, reduceCtorEq, ge_iff_le, gt_iff_lt, eq_self_iff_true, beq_self_eq_true, beq_iff_eq, bne_iff_ne, ne_eq, ite_not, Int.reduceEq, Option.getD_some, Option.getD_none, ite_self, Nat.reduceAdd, Nat.reduceSub, Nat.reduceMul, Nat.reduceLeDiff, Nat.reduceEqDiff, Nat.reduceBEq, Nat.reduceBNe, Int.reduceLT, Int.reduceLE, Int.reduceAdd, Int.reduceSub, Int.reduceMul, Int.reduceNeg, Int.reduceNe, Int.reduceBEq, Int.reduceBNe, Int.reduceToNat, hH, hs', h1, low_flt]
  | ok n q =>
    have hn := rU32_le hr
    rw [hr] at h1
    simp only [outC] at h1
    have hH2 : hget (Pi.hset H c (curB z b q)) c = some (curB z b q) := get_set hid
    by_cases h2 : most < n
    · refine ⟨q, ?_⟩
      have c1 : (most : Int) < n := by omega
      simp only [h2, if_true, outC]
      unfold curB at hH h1 ⊢
      simp (contextual := true) (dsimp := false) (disch := omega) only [↓goDown, goUp, List.length_cons, List.length_nil, List.map_cons, List.map_nil, List.take_succ_cons, List.take_zero, List.drop_succ_cons, List.drop_zero, List.drop_nil, List.take_nil, List.cons_append, List.nil_append, List.append_nil, List.set_cons_zero, List.set_cons_succ, List.all_cons, List.all_nil, ↓reduceIte, reduceCtorEq, ge_iff_le, gt_iff_lt, eq_self_iff_true, beq_self_eq_true, beq_iff_eq, bne_iff_ne, ne_eq, ite_not, Int.reduceEq, Option.getD_some, Option.getD_none, ite_self, Nat.reduceAdd, Nat.reduceSub, Nat.reduceMul, Nat.reduceLeDiff, Nat.reduceEqDiff, Nat.reduceBEq, Nat.reduceBNe, Int.reduceLT, Int.reduceLE, Int.reduceAdd, Int.reduceSub, Int.reduceMul, Int.reduceNeg, Int.reduceNe, Int.reduceBEq, Int.reduceBNe, Int.reduceToNat, hH, hs', h1, c1, fail_is]
      rfl
    · have c1 : ¬ (most : Int) < n := by omega
      obtain ⟨q2, h3⟩ := intList_loop hb hle (v6 := .slice false true 0 []) hone n 0 n q [] (Pi.hset H c (curB z b q)) hH2 hn.1 (by omega) rfl (by omega)
      have h3 : run (p_entry_list_int_11111010 one (.slice false true 0 []) (.slice false true 0 []) (.int .u32 n) (.int .u32 0)) (Pi.hset H c (curB z b q)) = outC z b c (Pi.hset H c (curB z b q)) q2 (fun l => accP 1 (l.map encI)) (rRep rd n q) := h3
      refine ⟨q2, ?_⟩
      simp only [h2, if_false]
      cases hr2 : rRep rd n q <;> rw [hr2] at h3 <;> simp only [outC, set_set] at h3 ⊢ <;> unfold curB at hH h1 h3 ⊢ <;>
        simp (contextual := true) (dsimp := false) (disch := omega) only [↓goDown, goUp, List.length_cons, List.length_nil, List.map_cons, List.map_nil, List.take_succ_cons, List.take_zero, List.drop_succ_cons, List.drop_zero, List.drop_nil, List.take_nil, List.cons_append, List.nil_append, List.append_nil, List.set_cons_zero, List.set_cons_succ, List.all_cons, List.all_nil, ↓reduceIte, reduceCtorEq, ge_iff_le, gt_iff_lt, eq_self_iff_true, beq_self_eq_true, beq_iff_eq, bne_iff_ne, ne_eq, ite_not, Int.reduceEq, Option.getD_some, Option.getD_none, ite_self, Nat.reduceAdd, Nat.reduceSub, Nat.reduceMul, Nat.reduceLeDiff, Nat.reduceEqDiff, Nat.reduceBEq, Nat.reduceBNe, Int.reduceLT, Int.reduceLE, Int.reduceAdd, Int.reduceSub, Int.reduceMul, Int.reduceNeg, Int.reduceNe, Int.reduceBEq, Int.reduceBNe, Int.reduceToNat, hH, hs', h1, c1, p_entry_list_int_1111_eq, h3, low_acc, low_flt, isTup_acc]
theorem subList_loop {b : List UInt8} {z : Bool} (hb : b.length < 2 ^ 61) {rd : Nat → Rs ST} (hle : ∀ p v q, rd p = .ok v q → q ≤ b.length) {one : PV} {c : Nat} {v6 : PV} (hone : ∀ H p, hget H c = some (curB z b p) → p ≤ b.length → ∃ q, run (callV P C (strip one) []) H = outC z b c H q encS (rd p)) :
    ∀ (m i n p : Nat) (acc : List ST) (H : Heap), hget H c = some (curB z b p) → p ≤ b.length → n = i + m → acc.length = i → n ≤ 1000000 →
      ∃ q, run (p_entry_list_api_SubType_11111010 one v6 (accP 6 (acc.map encS)) (.int .u32 n) (.int .u32 i)) H = outC z b c H q (fun l => accP 6 ((acc ++ l).map encS)) (rRep rd m p)
  | 0, i, n, p, acc, H, hH, hp, hn, ha, hm => by
    refine ⟨p, ?_⟩
    rw [p_entry_list_api_SubType_11111010_eq]
    have c1 : ¬ (i : Int) < n := by omega
    have hset := set_self hH
    unfold rRep
    simp only [outC, hset, List.append_nil]
    simp (contextual := true) (dsimp := false) (disch := omega) only [↓goDown, goUp, List.length_cons, List.length_nil, List.map_cons, List.map_nil, List.take_succ_cons, List.take_zero, List.drop_succ_cons, List.drop_zero, List.drop_nil, List.take_nil, List.cons_append, List.nil_append, List.append_nil, List.set_cons_zero, List.set_cons_succ, List.all_cons, List.all_nil, ↓reduceIte, reduceCtorEq, ge_iff_le, gt_iff_lt, eq_self_iff_true, beq_self_eq_true, beq_iff_eq, bne_iff_ne, ne_eq, ite_not, Int.reduceEq, Option.getD_some, Option.getD_none, ite_self, Nat.reduceAdd, Nat.reduceSub, Nat.reduceMul, Nat.reduceLeDiff, Nat.reduceEqDiff, Nat.reduceBEq, Nat.reduceBNe, Int.reduceLT, Int.reduceLE, Int.reduceAdd, Int.reduceSub, Int.reduceMul, Int.reduceNeg, Int.reduceNe, Int.reduceBEq, Int.reduceBNe, Int.reduceToNat, c1, isTup_acc]
  | m + 1, i, n, p, acc, H, hH, hp, hn, ha, hm => by
    rw [p_entry_list_api_SubType_11111010_eq]
    have c1 : (i : Int) < n := by omega
    have hid := get_lt hH
    obtain ⟨q, h1⟩ := hone H p hH hp
    unfold rRep
    cases hr : rd p with
    | err a w =>
      rw [hr] at h1
      simp only [outC] at h1
      refine ⟨q, ?_⟩
      simp only [outC]
      simp (contextual := true) (dsimp := false) (disch := omega) only [↓goDown, goUp, List.length_cons, List.length_nil, List.map_cons, List.map_nil, List.take_succ_cons, List.take_zero, List.drop_succ_cons, List.drop_zero, List.drop_nil, List.take_nil, List.cons_append, List.nil_append, List.append_nil, List.set_cons_zero, List.set_cons_succ, List.all_cons, List.all_nil, ↓reduceIte, reduceCtorEq, ge_iff_le, gt_iff_lt, eq_self_iff_true, beq_self_eq_true, beq_iff_eq, bne_iff_ne, ne_eq, ite_not, Int.reduceEq, Option.getD_some, Option.getD_none, ite_self, Nat.reduceAdd, Nat.reduceSub, Nat.reduceMul, Nat.reduceLeDiff, Nat.reduceEqDiff, Nat.reduceBEq, Nat.reduceBNe, Int.reduceLT, Int.reduceLE, Int.reduceAdd, Int.reduceSub, Int.reduceMul, Int.reduceNeg, Int.reduceNe, Int.reduceBEq, Int.reduceBNe, Int.reduceToNat, c1, h1]
    | ok v q' =>
      rw [hr] at h1
      simp only [outC] at h1
      have hl := hle _ _ _ hr
      obtain ⟨q2, h2⟩ := subList_loop hb hle hone m (i + 1) n q' (acc ++ [v]) (Pi.hset H c (curB z b q')) (get_set hid) hl (by omega) (by simp [ha]) hm
      refine ⟨q2, ?_⟩
      have hbs := fun K => bs_S (v := v) (K := K)
      have hap := fun K => ap_acc (H := K) (sz := 6) (b := 112) (l := acc.map encS) (v := encS v) (o := true) (by simp [ha]; omega)
      have e1 : accP 6 (acc.map encS ++ [encS v]) = accP 6 ((acc ++ [v]).map encS) := by simp
      have e2 : (i : Int) + 1 = ((i + 1 : Nat) : Int) := rfl
      rw [e1] at hap
      have hrr : outC z b c (Pi.hset H c (curB z b q')) q2 (fun l => accP 6 ((acc ++ [v] ++ l).map encS)) (rRep rd m q') = outC z b c H q2 (fun l => accP 6 ((acc ++ l).map encS)) (rsCons v (rRep rd m q')) := by
        cases rRep rd m q' <;> simp only [outC, set_set, rsCons] <;> simp
      simp (contextual := true) (dsimp := false) (disch := omega) only [↓goDown, goUp, List.length_cons, List.length_nil, List.map_cons, List.map_nil, List.take_succ_cons, List.take_zero, List.drop_succ_cons, List.drop_zero, List.drop_nil, List.take_nil, List.cons_append, List.nil_append, List.append_nil, List.set_cons_zero, List.set_cons_succ, List.all_cons, List.all_nil, ↓reduceIte, reduceCtorEq, ge_iff_le, gt_iff_lt, eq_self_iff_true, beq_self_eq_true, beq_iff_eq, bne_iff_ne, ne_eq, ite_not, Int.reduceEq, Option.getD_some, Option.getD_none, ite_self, Nat.reduceAdd, Nat.reduceSub, Nat.reduceMul, Nat.reduceLeDiff, Nat.reduceEqDiff, Nat.reduceBEq, Nat.reduceBNe, Int.reduceLT, Int.reduceLE, Int.reduceAdd, Int.reduceSub, Int.reduceMul, Int.reduceNeg, Int.reduceNe, Int.reduceBEq, Int.reduceBNe, Int.reduceToNat, c1, h1, hbs, hap, e2, strip_Su, stripC_Su, isTup_Su, low_Su]
      rw [h2]
      exact hrr
theorem subList_is {b : List UInt8} {z : Bool} (hb : b.length < 2 ^ 61) {rd : Nat → Rs ST} (hle : ∀ p v q, rd p = .ok v q → q ≤ b.length) {one : PV} {c most : Nat} (hmost : most ≤ 1000000) (hone : ∀ H p, hget H c = some (curB z b p) → p ≤ b.length → ∃ q, run (callV P C (strip one) []) H = outC z b c H q encS (rd p))
    {H : Heap} {p : Nat} (hH : hget H c = some (curB z b p)) (hp : p ≤ b.length) :
    ∃ q, run (C k_entry_list_api_SubType [.ptr c 0, .int .u32 most, one]) H = outC z b c H q (fun l => accP 6 (l.map encS)) (rList b most rd p) := by
  have hid := get_lt hH
  have hset := set_self hH
  have hs' : Pi.hset H c (.cells [BS z b, .int .i64 p]) = H := hset
  have h1 := u32_is hH hb hp
  rw [entry_list_api_SubType_eq]
  unfold rList
  cases hr : rU32 b p with
  | err a w =>
    rw [hr] at h1
    simp only [outC, hset] at h1
    refine ⟨p, ?_⟩
    simp only [outC, hset]
    unfold curB at hH
    simp (contextual := true) (dsimp := false) (disch := omega) only [↓goDown, goUp, List.length_cons, List.length_nil, List.map_cons, List.map_nil, List.take_succ_cons, List.take_zero, List.drop_succ_cons, List.drop_zero, List.drop_nil, List.take_nil, List.cons_append, List.nil_append, List.append_nil, List.set_cons_zero, List.set_cons_succ, List.all_cons, List.all_nil, ↓reduceIte, reduceCtorEq, ge_iff_le, gt_iff_lt, eq_self_iff_true, beq_self_eq_true, beq_iff_eq, bne_iff_ne, ne_eq, ite_not, Int.reduceEq, Option.getD_some, Option.getD_none, ite_self, Nat.reduceAdd, Nat.reduceSub, Nat.reduceMul, Nat.reduceLeDiff, Nat.reduceEqDiff, Nat.reduceBEq, Nat.reduceBNe, Int.reduceLT, Int.reduceLE, Int.reduceAdd, Int.reduceSub, Int.reduceMul, Int.reduceNeg, Int.reduceNe, Int.reduceBEq, Int.reduceBNe, Int.reduceToNat, hH, hs', h1, low_flt]
  | ok n q =>
    have hn := rU32_le hr
    rw [hr] at h1
    simp only [outC] at h1
    have hH2 : hget (Pi.hset H c (curB z b q)) c = some (curB z b q) := get_set hid
    by_cases h2 : most < n
    · refine ⟨q, ?_⟩
      have c1 : (most : Int) < n := by omega
      simp only [h2, if_true, outC]
      unfold curB at hH h1 ⊢
      simp (contextual := true) (dsimp := false) (disch := omega) only [↓goDown, goUp, List.length_cons, List.length_nil, List.map_cons, List.map_nil, List.take_succ_cons, List.take_zero, List.drop_succ_cons, List.drop_zero, List.drop_nil, List.take_nil, List.cons_append, List.nil_append, List.append_nil, List.set_cons_zero, List.set_cons_succ, List.all_cons, List.all_nil, ↓reduceIte, reduceCtorEq, ge_iff_le, gt_iff_lt, eq_self_iff_true, beq_self_eq_true, beq_iff_eq, bne_iff_ne, ne_eq, ite_not, Int.reduceEq, Option.getD_some, Option.getD_none, ite_self, Nat.reduceAdd, Nat.reduceSub, Nat.reduceMul, Nat.reduceLeDiff, Nat.reduceEqDiff, Nat.reduceBEq, Nat.reduceBNe, Int.reduceLT, Int.reduceLE, Int.reduceAdd, Int.reduceSub, Int.reduceMul, Int.reduceNeg, Int.reduceNe, Int.reduceBEq, Int.reduceBNe, Int.reduceToNat, hH, hs', h1, c1, fail_is]
      rfl
    · have c1 : ¬ (most : Int) < n := by omega
      obtain ⟨q2, h3⟩ := subList_loop hb hle (v6 := .slice false true 0 []) hone n 0 n q [] (Pi.hset H c (curB z b q)) hH2 hn.1 (by omega) rfl (by omega)
      have h3 : run (p_entry_list_api_SubType_11111010 one (.slice false true 0 []) (.slice false true 0 []) (.int .u32 n) (.int .u32 0)) (Pi.hset H c (curB z b q)) = outC z b c (Pi.hset H c (curB z b q)) q2 (fun l => accP 6 (l.map encS)) (rRep rd n q) := h3
      refine ⟨q2, ?_⟩
      simp only [h2, if_false]
      cases hr2 : rRep rd n q <;> rw [hr2] at h3 <;> simp only [outC, set_set] at h3 ⊢ <;> unfold curB at hH h1 h3 ⊢ <;>
        simp (contextual := true) (dsimp := false) (disch := omega) only [↓goDown, goUp, List.length_cons, List.length_nil, List.map_cons, List.map_nil, List.take_succ_cons, List.take_zero, List.drop_succ_cons, List.drop_zero, List.drop_nil, List.take_nil, List.cons_append, List.nil_append, List.append_nil, List.set_cons_zero, List.set_cons_succ, List.all_cons, List.all_nil, ↓reduceIte, reduceCtorEq, ge_iff_le, gt_iff_lt, eq_self_iff_true, beq_self_eq_true, beq_iff_eq, bne_iff_ne, ne_eq, ite_not, Int.reduceEq, Option.getD_some, Option.getD_none, ite_self, Nat.reduceAdd, Nat.reduceSub, Nat.reduceMul, Nat.reduceLeDiff, Nat.reduceEqDiff, Nat.reduceBEq, Nat.reduceBNe, Int.reduceLT, Int.reduceLE, Int.reduceAdd, Int.reduceSub, Int.reduceMul, Int.reduceNeg, Int.reduceNe, Int.reduceBEq, Int.reduceBNe, Int.reduceToNat, hH, hs', h1, c1, p_entry_list_api_SubType_1111_eq, h3, low_acc, low_flt, isTup_acc]
end Go.Proofs.Ytofbbijagbpicaa.Pi.Q
namespace Go.Proofs.Ytofbbijagbpicaa.Pi.Q
open Go Go.Proofs.Ytofbbijagbpicaa.Pi
set_option linter.unusedVariables false
set_option linter.unusedSimpArgs false
set_option maxRecDepth 100000
attribute [local congr] ite_congr
theorem bsR_F {v : FT} {K : Heap} : bsR true (some 4) [encF v] K = some (.ok (.slice true false 4 [encF v]) K) := by
  have := bs_F (v := v) (K := K)
  rw [run_bs] at this
  simpa [stripC_F] using this
theorem cells_F1 {v : FT} : (PV.slice true false 4 [encF v]).cells = [.slice true false 4 [encF v]] := nrfl rfl
theorem rVals_le {b : List UInt8} {p q : Nat} {l : List VT} (h : rVals b p = .ok l q) : q ≤ b.length := (rList_le (fun p v q h => rVal_le h) h).1
def rFields (b : List UInt8) (p : Nat) : Rs (List FT) := rList b 10000 (rField b) p
theorem rFields_le {b : List UInt8} {p q : Nat} {l : List FT} (h : rFields b p = .ok l q) : q ≤ b.length := (rList_le (fun p v q h => rField_le h) h).1
def rsFunc (ps : List VT) : Rs (List VT) → Rs CT
  | .ok rs q => .ok ⟨1, ps, rs, []⟩ q
  | .err a w => .err a w
def rsStruct : Rs (List FT) → Rs CT
  | .ok fs q => .ok ⟨2, [], [], fs⟩ q
  | .err a w => .err a w
def rsArray : Rs FT → Rs CT
  | .ok f q => .ok ⟨3, [], [], [f]⟩ q
  | .err a w => .err a w
def rFunc (b : List UInt8) (p : Nat) : Rs CT :=
  match rVals b p with
  | .ok ps q => rsFunc ps (rVals b q)
  | .err a w => .err a w
def rComp (b : List UInt8) (p : Nat) : Rs CT :=
  if p < b.length then
    if (b.getD p 0).toNat = 96 then rFunc b (p + 1)
    else if (b.getD p 0).toNat = 95 then rsStruct (rFields b (p + 1))
    else if (b.getD p 0).toNat = 94 then rsArray (rField b (p + 1))
    else .err p 4
  else .err b.length 3
theorem rComp_le {b : List UInt8} {p q : Nat} {v : CT} (h : rComp b p = .ok v q) : q ≤ b.length := by
  unfold rComp at h
  split at h
  · split at h
    · unfold rFunc at h
      cases h1 : rVals b (p + 1) with
      | ok ps q1 =>
        rw [h1] at h
        dsimp only at h
        cases h2 : rVals b q1 with
        | ok rs q2 => rw [h2] at h; simp only [rsFunc, Rs.ok.injEq] at h; have := rVals_le h2; omega
        | err a w => rw [h2] at h; cases h
      | err a w => rw [h1] at h; cases h
    · split at h
      · cases h1 : rFields b (p + 1) with
        | ok fs q1 => rw [h1] at h; simp only [rsStruct, Rs.ok.injEq] at h; have := rFields_le h1; omega
        | err a w => rw [h1] at h; cases h
      · split at h
        · cases h1 : rField b (p + 1) with
          | ok fs q1 => rw [h1] at h; simp only [rsArray, Rs.ok.injEq] at h; have := rField_le h1; omega
          | err a w => rw [h1] at h; cases h
        · cases h
  · cases h
theorem fields_is {b : List UInt8} {z : Bool} (hb : b.length < 2 ^ 61) {c : Nat} {H : Heap} {p : Nat} (hH : hget H c = some (curB z b p)) (hp : p ≤ b.length) :
    ∃ q, run (C k_entry_list_api_Field [.ptr c 0, .int .u32 10000, .fn k_entry_cursor_field [.ptr c 0] []]) H = outC z b c H q (fun l => accP 4 (l.map encF)) (rFields b p) :=
  fieldList_is hb (fun p v q h => rField_le h) (one := .fn k_entry_cursor_field [.ptr c 0] []) (most := 10000) (by omega) (fun H p hH hp => by
    obtain ⟨q, h⟩ := field_is hH hb hp
    exact ⟨q, h⟩) hH hp
theorem comp_is {H : Heap} {b : List UInt8} {z : Bool} {c p : Nat} (hH : hget H c = some (curB z b p)) (hb : b.length < 2 ^ 61) (hp : p ≤ b.length) :
    ∃ q, run (C k_entry_cursor_comp [.ptr c 0]) H = outC z b c H q encC (rComp b p) := by
  have hid := get_lt hH
  have hset := set_self hH
  rw [entry_cursor_comp_eq]
  unfold rComp
  have hH1 : ∀ L, hget (hadd H L) c = some (curB z b p) := fun L => by rw [get_old hid]; exact hH
  have so : ∀ u L, Pi.hset (hadd H L) c (curB z b u) = hadd (Pi.hset H c (curB z b u)) L := fun u L => by rw [set_old hid]
  have so1 : ∀ u y L, Pi.hset (hadd (Pi.hset H c (curB z b y)) L) c (curB z b u) = hadd (Pi.hset H c (curB z b u)) L := fun u y L => by rw [set_old1 hid, set_set]
  have hH2 : ∀ u L, hget (hadd (Pi.hset H c (curB z b u)) L) c = some (curB z b u) := fun u L => by rw [get_old (by rw [len_set]; exact hid)]; exact get_set hid
  have hc3 : ∀ u, Pi.hset H c (.cells [BS z b, .int .i64 (u : Nat)]) = Pi.hset H c (curB z b u) := fun u => rfl
  by_cases h1 : p < b.length
  · have hl := fun L => look_ok (hH1 L) hb h1
    have hc := byt_lt (b.getD p 0)
    rw [if_pos h1]
    generalize (b.getD p 0).toNat = x at hl hc ⊢
    have st0 : hget H c = some (.cells [BS z b, .int .i64 p]) := hH
    by_cases h2 : x = 96
    · rw [if_pos h2]
      have c1 : (x : Int) = 96 := by omega
      obtain ⟨q, hk⟩ := vals_is hb (hH2 (p + 1) [.cells [.int .i64 0, .slice false true 0 [], .slice false true 0 [], .slice false true 0 []]]) (show p + 1 ≤ b.length by omega)
      unfold rFunc
      cases hr : rVals b (p + 1) with
      | err a w =>
        refine ⟨q, ?_⟩
        simp only [hr, outC, so1] at hk ⊢
        unfold curB at hk
        simp only [ns] at hk
        simp (contextual := true) (dsimp := false) (disch := omega) only [↓goDown, goUp, List.length_cons, List.length_nil, List.map_cons, List.map_nil, List.take_succ_cons, List.take_zero, List.drop_succ_cons, List.drop_zero, List.drop_nil, List.take_nil, List.cons_append, List.nil_append, List.append_nil, List.set_cons_zero, List.set_cons_succ, List.all_cons, List.all_nil, ↓reduceIte, reduceCtorEq, ge_iff_le, gt_iff_lt, eq_self_iff_true, beq_self_eq_true, beq_iff_eq, bne_iff_ne, ne_eq, ite_not, Int.reduceEq, Option.getD_some, Option.getD_none, ite_self, Nat.reduceAdd, Nat.reduceSub, Nat.reduceMul, Nat.reduceLeDiff, Nat.reduceEqDiff, Nat.reduceBEq, Nat.reduceBNe, Int.reduceLT, Int.reduceLE, Int.reduceAdd, Int.reduceSub, Int.reduceMul, Int.reduceNeg, Int.reduceNe, Int.reduceBEq, Int.reduceBNe, Int.reduceToNat, hl, eq_true c1, st0, hk, low_flt]
        rfl
      | ok ps q1 =>
        obtain ⟨q2, hk2⟩ := vals_is hb (hH2 q1 [.cells [.int .i64 0, .slice false true 0 [], .slice false true 0 [], .slice false true 0 []], .cells [.int .i64 1, shutP 3 (ps.map encV), .slice false true 0 [], .slice false true 0 []]]) (rVals_le hr)
        refine ⟨q2, ?_⟩
        simp only [hr, outC, so1, encL] at hk ⊢
        unfold curB at hk
        simp only [ns] at hk
        cases hs : rVals b q1 <;> simp only [hs, outC, so1, encL, rsFunc] at hk2 ⊢ <;> unfold curB at hk2 <;>
          simp (contextual := true) (dsimp := false) (disch := omega) only [↓goDown, goUp, List.length_cons, List.length_nil, List.map_cons, List.map_nil, List.take_succ_cons, List.take_zero, List.drop_succ_cons, List.drop_zero, List.drop_nil, List.take_nil, List.cons_append, List.nil_append, List.append_nil, List.set_cons_zero, List.set_cons_succ, List.all_cons, List.all_nil, ↓reduceIte, reduceCtorEq, ge_iff_le, gt_iff_lt, eq_self_iff_true, beq_self_eq_true, beq_iff_eq, bne_iff_ne, ne_eq, ite_not, Int.reduceEq, Option.getD_some, Option.getD_none, ite_self, Nat.reduceAdd, Nat.reduceSub, Nat.reduceMul, Nat.reduceLeDiff, Nat.reduceEqDiff, Nat.reduceBEq, Nat.reduceBNe, Int.reduceLT, Int.reduceLE, Int.reduceAdd, Int.reduceSub, Int.reduceMul, Int.reduceNeg, Int.reduceNe, Int.reduceBEq, Int.reduceBNe, Int.reduceToNat, hl, eq_true c1, st0, hk, hk2, low_flt, cells_acc, stripC_acc, isCell_acc, low_acc, isTup_acc, cells_P, isCell_P, low_P, stripC_P, isTup_P]
        · rfl
        · rfl
    · rw [if_neg h2]
      have c1 : ¬ (x : Int) = 96 := by omega
      by_cases h3 : x = 95
      · rw [if_pos h3]
        have c2 : (x : Int) = 95 := by omega
        obtain ⟨q, hk⟩ := fields_is hb (hH2 (p + 1) [.cells [.int .i64 0, .slice false true 0 [], .slice false true 0 [], .slice false true 0 []]]) (show p + 1 ≤ b.length by omega)
        refine ⟨q, ?_⟩
        cases hr : rFields b (p + 1) <;> simp only [hr, outC, so1, rsStruct] at hk ⊢ <;> unfold curB at hk <;> simp only [ns] at hk <;>
          simp (contextual := true) (dsimp := false) (disch := omega) only [↓goDown, goUp, List.length_cons, List.length_nil, List.map_cons, List.map_nil, List.take_succ_cons, List.take_zero, List.drop_succ_cons, List.drop_zero, List.drop_nil, List.take_nil, List.cons_append, List.nil_append, List.append_nil, List.set_cons_zero, List.set_cons_succ, List.all_cons, List.all_nil, ↓reduceIte, reduceCtorEq, ge_iff_le, gt_iff_lt, eq_self_iff_true, beq_self_eq_true, beq_iff_eq, bne_iff_ne, ne_eq, ite_not, Int.reduceEq, Option.getD_some, Option.getD_none, ite_self, Nat.reduceAdd, Nat.reduceSub, Nat.reduceMul, Nat.reduceLeDiff, Nat.reduceEqDiff, Nat.reduceBEq, Nat.reduceBNe, Int.reduceLT, Int.reduceLE, Int.reduceAdd, Int.reduceSub, Int.reduceMul, Int.reduceNeg, Int.reduceNe, Int.reduceBEq, Int.reduceBNe, Int.reduceToNat, hl, c1, eq_true c2, st0, run_mf, hk, low_flt, cells_acc, stripC_acc, isCell_acc, low_acc, isTup_acc, cells_P, isCell_P, low_P, stripC_P, isTup_P]
        · rfl
        · rfl
      · rw [if_neg h3]
        have c2 : ¬ (x : Int) = 95 := by omega
        by_cases h4 : x = 94
        · rw [if_pos h4]
          have c3 : (x : Int) = 94 := by omega
          obtain ⟨q, hk⟩ := field_is (hH2 (p + 1) [.cells [.int .i64 0, .slice false true 0 [], .slice false true 0 [], .slice false true 0 []]]) hb (show p + 1 ≤ b.length by omega)
          refine ⟨q, ?_⟩
          cases hr : rField b (p + 1) <;> simp only [hr, outC, so1, rsArray] at hk ⊢ <;> unfold curB at hk <;> simp only [ns] at hk <;>
            simp (contextual := true) (dsimp := false) (disch := omega) only [↓goDown, goUp, List.length_cons, List.length_nil, List.map_cons, List.map_nil, List.take_succ_cons, List.take_zero, List.drop_succ_cons, List.drop_zero, List.drop_nil, List.take_nil, List.cons_append, List.nil_append, List.append_nil, List.set_cons_zero, List.set_cons_succ, List.all_cons, List.all_nil, ↓reduceIte, reduceCtorEq, ge_iff_le, gt_iff_lt, eq_self_iff_true, beq_self_eq_true, beq_iff_eq, bne_iff_ne, ne_eq, ite_not, Int.reduceEq, Option.getD_some, Option.getD_none, ite_self, Nat.reduceAdd, Nat.reduceSub, Nat.reduceMul, Nat.reduceLeDiff, Nat.reduceEqDiff, Nat.reduceBEq, Nat.reduceBNe, Int.reduceLT, Int.reduceLE, Int.reduceAdd, Int.reduceSub, Int.reduceMul, Int.reduceNeg, Int.reduceNe, Int.reduceBEq, Int.reduceBNe, Int.reduceToNat, hl, c1, c2, eq_true c3, st0, hk, low_flt, bs_F, bsR_F, stripC_F, cells_F1, cells_acc, stripC_acc, isCell_acc, low_acc, isTup_acc, cells_P, isCell_P, low_P, stripC_P, isTup_P, low_F]
          · rfl
          · rfl
        · rw [if_neg h4]
          have c3 : ¬ (x : Int) = 94 := by omega
          refine ⟨p + 1, ?_⟩
          simp only [outC]
          have e1 : (p : Int) + 1 - 1 = p := by omega
          simp (contextual := true) (dsimp := false) (disch := omega) only [↓goDown, goUp, List.length_cons, List.length_nil, List.map_cons, List.map_nil, List.take_succ_cons, List.take_zero, List.drop_succ_cons, List.drop_zero, List.drop_nil, List.take_nil, List.cons_append, List.nil_append, List.append_nil, List.set_cons_zero, List.set_cons_succ, List.all_cons, List.all_nil, ↓reduceIte, reduceCtorEq, ge_iff_le, gt_iff_lt, eq_self_iff_true, beq_self_eq_true, beq_iff_eq, bne_iff_ne, ne_eq, ite_not, Int.reduceEq, Option.getD_some, Option.getD_none, ite_self, Nat.reduceAdd, Nat.reduceSub, Nat.reduceMul, Nat.reduceLeDiff, Nat.reduceEqDiff, Nat.reduceBEq, Nat.reduceBNe, Int.reduceLT, Int.reduceLE, Int.reduceAdd, Int.reduceSub, Int.reduceMul, Int.reduceNeg, Int.reduceNe, Int.reduceBEq, Int.reduceBNe, Int.reduceToNat, hl, c1, c2, c3, st0, fail_is, e1]
          rfl
  · refine ⟨p, ?_⟩
    have hl := fun L => look_err (hH1 L) hb h1
    rw [if_neg h1]
    simp only [outC, hset]
    simp (contextual := true) (dsimp := false) (disch := omega) only [↓goDown, goUp, List.length_cons, List.length_nil, List.map_cons, List.map_nil, List.take_succ_cons, List.take_zero, List.drop_succ_cons, List.drop_zero, List.drop_nil, List.take_nil, List.cons_append, List.nil_append, List.append_nil, List.set_cons_zero, List.set_cons_succ, List.all_cons, List.all_nil, ↓reduceIte, reduceCtorEq, ge_iff_le, gt_iff_lt, eq_self_iff_true, beq_self_eq_true, beq_iff_eq, bne_iff_ne, ne_eq, ite_not, Int.reduceEq, Option.getD_some, Option.getD_none, ite_self, Nat.reduceAdd, Nat.reduceSub, Nat.reduceMul, Nat.reduceLeDiff, Nat.reduceEqDiff, Nat.reduceBEq, Nat.reduceBNe, Int.reduceLT, Int.reduceLE, Int.reduceAdd, Int.reduceSub, Int.reduceMul, Int.reduceNeg, Int.reduceNe, Int.reduceBEq, Int.reduceBNe, Int.reduceToNat, hl, low_flt]
end Go.Proofs.Ytofbbijagbpicaa.Pi.Q
namespace Go.Proofs.Ytofbbijagbpicaa.Pi.Q
open Go Go.Proofs.Ytofbbijagbpicaa.Pi
set_option linter.unusedVariables false
set_option linter.unusedSimpArgs false
set_option maxRecDepth 100000
attribute [local congr] ite_congr
def rSupers (b : List UInt8) (p : Nat) : Rs (List Int) := rList b 1000 (rIndex b) p
theorem rSupers_le {b : List UInt8} {p q : Nat} {l : List Int} (h : rSupers b p = .ok l q) : q ≤ b.length := (rList_le (fun p v q h => rIndex_le h) h).1
def rsSub (f : Bool) (s : List Int) : Rs CT → Rs ST
  | .ok c q => .ok ⟨f, s, c⟩ q
  | .err a w => .err a w
def rSubs (b : List UInt8) (f : Bool) (p : Nat) : Rs ST :=
  match rSupers b p with
  | .ok s q => rsSub f s (rComp b q)
  | .err a w => .err a w
def rSub (b : List UInt8) (p : Nat) : Rs ST :=
  if p < b.length then
    if (b.getD p 0).toNat = 80 then rSubs b false (p + 1)
    else if (b.getD p 0).toNat = 79 then rSubs b true (p + 1)
    else rsSub true [] (rComp b p)
  else .err b.length 3
theorem rsSub_le {b : List UInt8} {f : Bool} {s : List Int} {p q : Nat} {v : ST} (h : rsSub f s (rComp b p) = .ok v q) : q ≤ b.length := by
  cases h1 : rComp b p with
  | ok c q1 => rw [h1] at h; simp only [rsSub, Rs.ok.injEq] at h; have := rComp_le h1; omega
  | err a w => rw [h1] at h; cases h
theorem rSubs_le {b : List UInt8} {f : Bool} {p q : Nat} {v : ST} (h : rSubs b f p = .ok v q) : q ≤ b.length := by
  unfold rSubs at h
  cases h1 : rSupers b p with
  | ok s q1 => rw [h1] at h; exact rsSub_le h
  | err a w => rw [h1] at h; cases h
theorem rSub_le {b : List UInt8} {p q : Nat} {v : ST} (h : rSub b p = .ok v q) : q ≤ b.length := by
  unfold rSub at h
  split at h
  · split at h
    · exact rSubs_le h
    · split at h
      · exact rSubs_le h
      · exact rsSub_le h
  · cases h
theorem supers_is {b : List UInt8} {z : Bool} (hb : b.length < 2 ^ 61) {c : Nat} {H : Heap} {p : Nat} (hH : hget H c = some (curB z b p)) (hp : p ≤ b.length) :
    ∃ q, run (C k_entry_list_int [.ptr c 0, .int .u32 1000, .fn k_entry_cursor_index [.ptr c 0] []]) H = outC z b c H q (fun l => accP 1 (l.map encI)) (rSupers b p) :=
  intList_is hb (fun p v q h => rIndex_le h) (one := .fn k_entry_cursor_index [.ptr c 0] []) (most := 1000) (by omega) (fun H p hH hp => by
    obtain ⟨q, h⟩ := index_is hH hb hp
    exact ⟨q, h⟩) hH hp
theorem cells_C {v : CT} : (encC v).cells = csC v := nrfl rfl
theorem sub_is {H : Heap} {b : List UInt8} {z : Bool} {c p : Nat} (hH : hget H c = some (curB z b p)) (hb : b.length < 2 ^ 61) (hp : p ≤ b.length) :
    ∃ q, run (C k_entry_cursor_sub [.ptr c 0]) H = outC z b c H q encS (rSub b p) := by
  have hid := get_lt hH
  have hset := set_self hH
  rw [entry_cursor_sub_eq]
  unfold rSub
  have hH1 : ∀ L, hget (hadd H L) c = some (curB z b p) := fun L => by rw [get_old hid]; exact hH
  have so : ∀ u L, Pi.hset (hadd H L) c (curB z b u) = hadd (Pi.hset H c (curB z b u)) L := fun u L => by rw [set_old hid]
  have so1 : ∀ u y L, Pi.hset (hadd (Pi.hset H c (curB z b y)) L) c (curB z b u) = hadd (Pi.hset H c (curB z b u)) L := fun u y L => by rw [set_old1 hid, set_set]
  have hH2 : ∀ u L, hget (hadd (Pi.hset H c (curB z b u)) L) c = some (curB z b u) := fun u L => by rw [get_old (by rw [len_set]; exact hid)]; exact get_set hid
  have st0 : hget H c = some (.cells [BS z b, .int .i64 p]) := hH
  by_cases h1 : p < b.length
  · have hl := fun L => look_ok (hH1 L) hb h1
    have hc := byt_lt (b.getD p 0)
    rw [if_pos h1]
    generalize (b.getD p 0).toNat = x at hl hc ⊢
    by_cases h2 : x = 80
    · rw [if_pos h2]
      have c1 : (x : Int) = 80 := by omega
      have c2 : ¬ (x : Int) = 79 := by omega
      have c3 : ((x : Int) == 79) = false := beq_false_of_ne c2
      obtain ⟨q, hk⟩ := supers_is hb (hH2 (p + 1) [.cells [.bool false, .slice false true 0 [], .int .i64 0, .slice false true 0 [], .slice false true 0 [], .slice false true 0 []]]) (show p + 1 ≤ b.length by omega)
      unfold rSubs
      cases hr : rSupers b (p + 1) with
      | err a w =>
        refine ⟨q, ?_⟩
        simp only [hr, outC, so1] at hk ⊢
        unfold curB at hk
        simp only [ns] at hk
        simp (contextual := true) (dsimp := false) (disch := omega) only [↓goDown, goUp, List.length_cons, List.length_nil, List.map_cons, List.map_nil, List.take_succ_cons, List.take_zero, List.drop_succ_cons, List.drop_zero, List.drop_nil, List.take_nil, List.cons_append, List.nil_append, List.append_nil, List.set_cons_zero, List.set_cons_succ, List.all_cons, List.all_nil, ↓reduceIte, reduceCtorEq, ge_iff_le, gt_iff_lt, eq_self_iff_true, beq_self_eq_true, beq_iff_eq, bne_iff_ne, ne_eq, ite_not, Int.reduceEq, Option.getD_some, Option.getD_none, ite_self, Nat.reduceAdd, Nat.reduceSub, Nat.reduceMul, Nat.reduceLeDiff, Nat.reduceEqDiff, Nat.reduceBEq, Nat.reduceBNe, Int.reduceLT, Int.reduceLE, Int.reduceAdd, Int.reduceSub, Int.reduceMul, Int.reduceNeg, Int.reduceNe, Int.reduceBEq, Int.reduceBNe, Int.reduceToNat, hl, eq_true c1, c2, c3, st0, run_mf, hk, low_flt]
        rfl
      | ok ps q1 =>
        obtain ⟨q2, hk2⟩ := comp_is (hH2 q1 [.cells [.bool false, .slice false true 0 [], .int .i64 0, .slice false true 0 [], .slice false true 0 [], .slice false true 0 []], .cells [.bool false, shutP 1 (ps.map encI), .int .i64 0, .slice false true 0 [], .slice false true 0 [], .slice false true 0 []]]) hb (rSupers_le hr)
        refine ⟨q2, ?_⟩
        simp only [hr, outC, so1] at hk ⊢
        unfold curB at hk
        simp only [ns] at hk
        cases hs : rComp b q1 <;> simp only [hs, outC, so1, rsSub] at hk2 ⊢ <;> unfold curB at hk2 <;>
          simp (contextual := true) (dsimp := false) (disch := omega) only [↓goDown, goUp, List.length_cons, List.length_nil, List.map_cons, List.map_nil, List.take_succ_cons, List.take_zero, List.drop_succ_cons, List.drop_zero, List.drop_nil, List.take_nil, List.cons_append, List.nil_append, List.append_nil, List.set_cons_zero, List.set_cons_succ, List.all_cons, List.all_nil, ↓reduceIte, reduceCtorEq, ge_iff_le, gt_iff_lt, eq_self_iff_true, beq_self_eq_true, beq_iff_eq, bne_iff_ne, ne_eq, ite_not, Int.reduceEq, Option.getD_some, Option.getD_none, ite_self, Nat.reduceAdd, Nat.reduceSub, Nat.reduceMul, Nat.reduceLeDiff, Nat.reduceEqDiff, Nat.reduceBEq, Nat.reduceBNe, Int.reduceLT, Int.reduceLE, Int.reduceAdd, Int.reduceSub, Int.reduceMul, Int.reduceNeg, Int.reduceNe, Int.reduceBEq, Int.reduceBNe, Int.reduceToNat, hl, eq_true c1, c2, c3, st0, run_mf, hk, hk2, low_flt, cells_acc, stripC_acc, isCell_acc, low_acc, isTup_acc, cells_P, isCell_P, low_P, stripC_P, isTup_P, cells_C, csC, strip_C, stripC_C, isTup_C, low_C]
        · rfl
        · rfl
    · rw [if_neg h2]
      by_cases h3 : x = 79
      · rw [if_pos h3]
        have c1 : (x : Int) = 79 := by omega
        have c2 : ¬ (x : Int) = 80 := by omega
        have c3 : ((x : Int) == 79) = true := by rw [c1]; rfl
        obtain ⟨q, hk⟩ := supers_is hb (hH2 (p + 1) [.cells [.bool false, .slice false true 0 [], .int .i64 0, .slice false true 0 [], .slice false true 0 [], .slice false true 0 []]]) (show p + 1 ≤ b.length by omega)
        unfold rSubs
        cases hr : rSupers b (p + 1) with
        | err a w =>
          refine ⟨q, ?_⟩
          simp only [hr, outC, so1] at hk ⊢
          unfold curB at hk
          simp only [ns] at hk
          simp (contextual := true) (dsimp := false) (disch := omega) only [↓goDown, goUp, List.length_cons, List.length_nil, List.map_cons, List.map_nil, List.take_succ_cons, List.take_zero, List.drop_succ_cons, List.drop_zero, List.drop_nil, List.take_nil, List.cons_append, List.nil_append, List.append_nil, List.set_cons_zero, List.set_cons_succ, List.all_cons, List.all_nil, ↓reduceIte, reduceCtorEq, ge_iff_le, gt_iff_lt, eq_self_iff_true, beq_self_eq_true, beq_iff_eq, bne_iff_ne, ne_eq, ite_not, Int.reduceEq, Option.getD_some, Option.getD_none, ite_self, Nat.reduceAdd, Nat.reduceSub, Nat.reduceMul, Nat.reduceLeDiff, Nat.reduceEqDiff, Nat.reduceBEq, Nat.reduceBNe, Int.reduceLT, Int.reduceLE, Int.reduceAdd, Int.reduceSub, Int.reduceMul, Int.reduceNeg, Int.reduceNe, Int.reduceBEq, Int.reduceBNe, Int.reduceToNat, hl, eq_true c1, c2, c3, st0, run_mf, hk, low_flt]
          rfl
        | ok ps q1 =>
          obtain ⟨q2, hk2⟩ := comp_is (hH2 q1 [.cells [.bool false, .slice false true 0 [], .int .i64 0, .slice false true 0 [], .slice false true 0 [], .slice false true 0 []], .cells [.bool true, shutP 1 (ps.map encI), .int .i64 0, .slice false true 0 [], .slice false true 0 [], .slice false true 0 []]]) hb (rSupers_le hr)
          refine ⟨q2, ?_⟩
          simp only [hr, outC, so1] at hk ⊢
          unfold curB at hk
          simp only [ns] at hk
          cases hs : rComp b q1 <;> simp only [hs, outC, so1, rsSub] at hk2 ⊢ <;> unfold curB at hk2 <;>
            simp (contextual := true) (dsimp := false) (disch := omega) only [↓goDown, goUp, List.length_cons, List.length_nil, List.map_cons, List.map_nil, List.take_succ_cons, List.take_zero, List.drop_succ_cons, List.drop_zero, List.drop_nil, List.take_nil, List.cons_append, List.nil_append, List.append_nil, List.set_cons_zero, List.set_cons_succ, List.all_cons, List.all_nil, ↓reduceIte, reduceCtorEq, ge_iff_le, gt_iff_lt, eq_self_iff_true, beq_self_eq_true, beq_iff_eq, bne_iff_ne, ne_eq, ite_not, Int.reduceEq, Option.getD_some, Option.getD_none, ite_self, Nat.reduceAdd, Nat.reduceSub, Nat.reduceMul, Nat.reduceLeDiff, Nat.reduceEqDiff, Nat.reduceBEq, Nat.reduceBNe, Int.reduceLT, Int.reduceLE, Int.reduceAdd, Int.reduceSub, Int.reduceMul, Int.reduceNeg, Int.reduceNe, Int.reduceBEq, Int.reduceBNe, Int.reduceToNat, hl, eq_true c1, c2, c3, st0, run_mf, hk, hk2, low_flt, cells_acc, stripC_acc, isCell_acc, low_acc, isTup_acc, cells_P, isCell_P, low_P, stripC_P, isTup_P, cells_C, csC, strip_C, stripC_C, isTup_C, low_C]
          · rfl
          · rfl
      · rw [if_neg h3]
        have c1 : ¬ (x : Int) = 80 := by omega
        have c2 : ¬ (x : Int) = 79 := by omega
        obtain ⟨q, hk⟩ := comp_is (hH1 [.cells [.bool false, .slice false true 0 [], .int .i64 0, .slice false true 0 [], .slice false true 0 [], .slice false true 0 []]]) hb hp
        refine ⟨q, ?_⟩
        cases hs : rComp b p <;> simp only [hs, outC, so, rsSub] at hk ⊢ <;>
          simp (contextual := true) (dsimp := false) (disch := omega) only [↓goDown, goUp, List.length_cons, List.length_nil, List.map_cons, List.map_nil, List.take_succ_cons, List.take_zero, List.drop_succ_cons, List.drop_zero, List.drop_nil, List.take_nil, List.cons_append, List.nil_append, List.append_nil, List.set_cons_zero, List.set_cons_succ, List.all_cons, List.all_nil, ↓reduceIte, reduceCtorEq, ge_iff_le, gt_iff_lt, eq_self_iff_true, beq_self_eq_true, beq_iff_eq, bne_iff_ne, ne_eq, ite_not, Int.reduceEq, Option.getD_some, Option.getD_none, ite_self, Nat.reduceAdd, Nat.reduceSub, Nat.reduceMul, Nat.reduceLeDiff, Nat.reduceEqDiff, Nat.reduceBEq, Nat.reduceBNe, Int.reduceLT, Int.reduceLE, Int.reduceAdd, Int.reduceSub, Int.reduceMul, Int.reduceNeg, Int.reduceNe, Int.reduceBEq, Int.reduceBNe, Int.reduceToNat, hl, c1, c2, hk, low_flt, cells_P, isCell_P, low_P, stripC_P, isTup_P, cells_C, csC, strip_C, stripC_C, isTup_C, low_C]
        · rfl
  · refine ⟨p, ?_⟩
    have hl := fun L => look_err (hH1 L) hb h1
    rw [if_neg h1]
    simp only [outC, hset]
    simp (contextual := true) (dsimp := false) (disch := omega) only [↓goDown, goUp, List.length_cons, List.length_nil, List.map_cons, List.map_nil, List.take_succ_cons, List.take_zero, List.drop_succ_cons, List.drop_zero, List.drop_nil, List.take_nil, List.cons_append, List.nil_append, List.append_nil, List.set_cons_zero, List.set_cons_succ, List.all_cons, List.all_nil, ↓reduceIte, reduceCtorEq, ge_iff_le, gt_iff_lt, eq_self_iff_true, beq_self_eq_true, beq_iff_eq, bne_iff_ne, ne_eq, ite_not, Int.reduceEq, Option.getD_some, Option.getD_none, ite_self, Nat.reduceAdd, Nat.reduceSub, Nat.reduceMul, Nat.reduceLeDiff, Nat.reduceEqDiff, Nat.reduceBEq, Nat.reduceBNe, Int.reduceLT, Int.reduceLE, Int.reduceAdd, Int.reduceSub, Int.reduceMul, Int.reduceNeg, Int.reduceNe, Int.reduceBEq, Int.reduceBNe, Int.reduceToNat, hl, low_flt]
structure RT where
  types : List ST
  exp : Bool
  deriving DecidableEq
def encR (v : RT) : PV := .agg [shutP 6 (v.types.map encS), .bool v.exp]
def rTypes (b : List UInt8) (p : Nat) : Rs (List ST) := rList b 10000 (rSub b) p
theorem rTypes_le {b : List UInt8} {p q : Nat} {l : List ST} (h : rTypes b p = .ok l q) : q ≤ b.length := (rList_le (fun p v q h => rSub_le h) h).1
def rsExp : Rs (List ST) → Rs RT
  | .ok l q => .ok ⟨l, true⟩ q
  | .err a w => .err a w
def rsOne : Rs ST → Rs RT
  | .ok v q => .ok ⟨[v], false⟩ q
  | .err a w => .err a w
def rRec (b : List UInt8) (p : Nat) : Rs RT :=
  if p < b.length then
    if (b.getD p 0).toNat = 78 then rsExp (rTypes b (p + 1)) else rsOne (rSub b p)
  else .err b.length 3
theorem types_is {b : List UInt8} {z : Bool} (hb : b.length < 2 ^ 61) {c : Nat} {H : Heap} {p : Nat} (hH : hget H c = some (curB z b p)) (hp : p ≤ b.length) :
    ∃ q, run (C k_entry_list_api_SubType [.ptr c 0, .int .u32 10000, .fn k_entry_cursor_sub [.ptr c 0] []]) H = outC z b c H q (fun l => accP 6 (l.map encS)) (rTypes b p) :=
  subList_is hb (fun p v q h => rSub_le h) (one := .fn k_entry_cursor_sub [.ptr c 0] []) (most := 10000) (by omega) (fun H p hH hp => by
    obtain ⟨q, h⟩ := sub_is hH hb hp
    exact ⟨q, h⟩) hH hp
theorem bsR_S {v : ST} {K : Heap} : bsR true (some 6) [encS v] K = some (.ok (.slice true false 6 [encS v]) K) := by
  have := bs_S (v := v) (K := K)
  rw [run_bs] at this
  simpa [stripC_Su] using this
theorem rec_is {H : Heap} {b : List UInt8} {z : Bool} {c p : Nat} (hH : hget H c = some (curB z b p)) (hb : b.length < 2 ^ 61) (hp : p ≤ b.length) :
    ∃ q, run (C k_entry_cursor_rec [.ptr c 0]) H = outC z b c H q encR (rRec b p) := by
  have hid := get_lt hH
  have hset := set_self hH
  rw [entry_cursor_rec_eq]
  unfold rRec
  have hH1 : ∀ L, hget (hadd H L) c = some (curB z b p) := fun L => by rw [get_old hid]; exact hH
  have so : ∀ u L, Pi.hset (hadd H L) c (curB z b u) = hadd (Pi.hset H c (curB z b u)) L := fun u L => by rw [set_old hid]
  have so1 : ∀ u y L, Pi.hset (hadd (Pi.hset H c (curB z b y)) L) c (curB z b u) = hadd (Pi.hset H c (curB z b u)) L := fun u y L => by rw [set_old1 hid, set_set]
  have hH2 : ∀ u L, hget (hadd (Pi.hset H c (curB z b u)) L) c = some (curB z b u) := fun u L => by rw [get_old (by rw [len_set]; exact hid)]; exact get_set hid
  have st0 : hget H c = some (.cells [BS z b, .int .i64 p]) := hH
  by_cases h1 : p < b.length
  · have hl := fun L => look_ok (hH1 L) hb h1
    have hc := byt_lt (b.getD p 0)
    rw [if_pos h1]
    generalize (b.getD p 0).toNat = x at hl hc ⊢
    by_cases h2 : x = 78
    · rw [if_pos h2]
      have c1 : (x : Int) = 78 := by omega
      obtain ⟨q, hk⟩ := types_is hb (hH2 (p + 1) [.cells [.slice false true 0 [], .bool false]]) (show p + 1 ≤ b.length by omega)
      refine ⟨q, ?_⟩
      cases hr : rTypes b (p + 1) <;> simp only [hr, outC, so1, rsExp] at hk ⊢ <;> unfold curB at hk <;> simp only [ns] at hk <;>
        simp (contextual := true) (dsimp := false) (disch := omega) only [↓goDown, goUp, List.length_cons, List.length_nil, List.map_cons, List.map_nil, List.take_succ_cons, List.take_zero, List.drop_succ_cons, List.drop_zero, List.drop_nil, List.take_nil, List.cons_append, List.nil_append, List.append_nil, List.set_cons_zero, List.set_cons_succ, List.all_cons, List.all_nil, ↓reduceIte, reduceCtorEq, ge_iff_le, gt_iff_lt, eq_self_iff_true, beq_self_eq_true, beq_iff_eq, bne_iff_ne, ne_eq, ite_not, Int.reduceEq, Option.getD_some, Option.getD_none, ite_self, Nat.reduceAdd, Nat.reduceSub, Nat.reduceMul, Nat.reduceLeDiff, Nat.reduceEqDiff, Nat.reduceBEq, Nat.reduceBNe, Int.reduceLT, Int.reduceLE, Int.reduceAdd, Int.reduceSub, Int.reduceMul, Int.reduceNeg, Int.reduceNe, Int.reduceBEq, Int.reduceBNe, Int.reduceToNat, hl, eq_true c1, st0, run_mf, hk, low_flt, cells_acc, stripC_acc, isCell_acc, low_acc, isTup_acc, cells_P, isCell_P, low_P, stripC_P, isTup_P]
      · rfl
      · rfl
    · rw [if_neg h2]
      have c1 : ¬ (x : Int) = 78 := by omega
      obtain ⟨q, hk⟩ := sub_is (hH1 [.cells [.slice false true 0 [], .bool false]]) hb hp
      refine ⟨q, ?_⟩
      cases hs : rSub b p <;> simp only [hs, outC, so, rsOne] at hk ⊢ <;>
        simp (contextual := true) (dsimp := false) (disch := omega) only [↓goDown, goUp, List.length_cons, List.length_nil, List.map_cons, List.map_nil, List.take_succ_cons, List.take_zero, List.drop_succ_cons, List.drop_zero, List.drop_nil, List.take_nil, List.cons_append, List.nil_append, List.append_nil, List.set_cons_zero, List.set_cons_succ, List.all_cons, List.all_nil, ↓reduceIte, reduceCtorEq, ge_iff_le, gt_iff_lt, eq_self_iff_true, beq_self_eq_true, beq_iff_eq, bne_iff_ne, ne_eq, ite_not, Int.reduceEq, Option.getD_some, Option.getD_none, ite_self, Nat.reduceAdd, Nat.reduceSub, Nat.reduceMul, Nat.reduceLeDiff, Nat.reduceEqDiff, Nat.reduceBEq, Nat.reduceBNe, Int.reduceLT, Int.reduceLE, Int.reduceAdd, Int.reduceSub, Int.reduceMul, Int.reduceNeg, Int.reduceNe, Int.reduceBEq, Int.reduceBNe, Int.reduceToNat, hl, c1, hk, low_flt, bs_S, bsR_S, stripC_Su, cells_P, isCell_P, low_P, stripC_P, isTup_P, low_Su]
      · rfl
  · refine ⟨p, ?_⟩
    have hl := fun L => look_err (hH1 L) hb h1
    rw [if_neg h1]
    simp only [outC, hset]
    simp (contextual := true) (dsimp := false) (disch := omega) only [↓goDown, goUp, List.length_cons, List.length_nil, List.map_cons, List.map_nil, List.take_succ_cons, List.take_zero, List.drop_succ_cons, List.drop_zero, List.drop_nil, List.take_nil, List.cons_append, List.nil_append, List.append_nil, List.set_cons_zero, List.set_cons_succ, List.all_cons, List.all_nil, ↓reduceIte, reduceCtorEq, ge_iff_le, gt_iff_lt, eq_self_iff_true, beq_self_eq_true, beq_iff_eq, bne_iff_ne, ne_eq, ite_not, Int.reduceEq, Option.getD_some, Option.getD_none, ite_self, Nat.reduceAdd, Nat.reduceSub, Nat.reduceMul, Nat.reduceLeDiff, Nat.reduceEqDiff, Nat.reduceBEq, Nat.reduceBNe, Int.reduceLT, Int.reduceLE, Int.reduceAdd, Int.reduceSub, Int.reduceMul, Int.reduceNeg, Int.reduceNe, Int.reduceBEq, Int.reduceBNe, Int.reduceToNat, hl, low_flt]
end Go.Proofs.Ytofbbijagbpicaa.Pi.Q
namespace Go.Proofs.Ytofbbijagbpicaa.Pi.Q
open Go Go.Proofs.Ytofbbijagbpicaa.Pi
set_option linter.unusedVariables false
set_option linter.unusedSimpArgs false
set_option maxRecDepth 100000
attribute [local congr] ite_congr
abbrev zR : RT := ⟨[], false⟩
theorem read_R_is {b : List UInt8} {z : Bool} (hb : b.length < 2 ^ 61) {one : PV} {r : Nat → Rs RT}
    (hone : ∀ H c p, hget H c = some (curB z b p) → p ≤ b.length → ∃ q, run (callV P C (strip one) [.ptr c 0]) H = outC z b c H q encR (r p)) {H : Heap} {at_ : Int} :
    run (C k_entry_read_api_RecType [BS z b, .int .i64 at_, one]) H = some (.ok (atPl at_ b (encR zR) (outR encR (encR zR) (r at_.toNat))) H) := by
  rw [entry_read_api_RecType_eq]
  unfold atPl
  by_cases h1 : at_ < 0
  · rw [if_pos (.inl h1)]
    simp (contextual := true) (dsimp := false) (disch := omega) only [↓goDown, goUp, List.length_cons, List.length_nil, List.map_cons, List.map_nil, List.take_succ_cons, List.take_zero, List.drop_succ_cons, List.drop_zero, List.drop_nil, List.take_nil, List.cons_append, List.nil_append, List.append_nil, List.set_cons_zero, List.set_cons_succ, List.all_cons, List.all_nil, ↓reduceIte, reduceCtorEq, ge_iff_le, gt_iff_lt, eq_self_iff_true, beq_self_eq_true, beq_iff_eq, bne_iff_ne, ne_eq, ite_not, Int.reduceEq, Option.getD_some, Option.getD_none, ite_self, Nat.reduceAdd, Nat.reduceSub, Nat.reduceMul, Nat.reduceLeDiff, Nat.reduceEqDiff, Nat.reduceBEq, Nat.reduceBNe, Int.reduceLT, Int.reduceLE, Int.reduceAdd, Int.reduceSub, Int.reduceMul, Int.reduceNeg, Int.reduceNe, Int.reduceBEq, Int.reduceBNe, Int.reduceToNat, eq_true h1, encR, shutP_nil, cells_P, isCell_P, low_P, stripC_P, strip_P, isTup_P]
  · by_cases h2 : (b.length : Int) < at_
    · rw [if_pos (.inr h2)]
      simp (contextual := true) (dsimp := false) (disch := omega) only [↓goDown, goUp, List.length_cons, List.length_nil, List.map_cons, List.map_nil, List.take_succ_cons, List.take_zero, List.drop_succ_cons, List.drop_zero, List.drop_nil, List.take_nil, List.cons_append, List.nil_append, List.append_nil, List.set_cons_zero, List.set_cons_succ, List.all_cons, List.all_nil, ↓reduceIte, reduceCtorEq, ge_iff_le, gt_iff_lt, eq_self_iff_true, beq_self_eq_true, beq_iff_eq, bne_iff_ne, ne_eq, ite_not, Int.reduceEq, Option.getD_some, Option.getD_none, ite_self, Nat.reduceAdd, Nat.reduceSub, Nat.reduceMul, Nat.reduceLeDiff, Nat.reduceEqDiff, Nat.reduceBEq, Nat.reduceBNe, Int.reduceLT, Int.reduceLE, Int.reduceAdd, Int.reduceSub, Int.reduceMul, Int.reduceNeg, Int.reduceNe, Int.reduceBEq, Int.reduceBNe, Int.reduceToNat, h1, h2, List.length_map, encR, shutP_nil, cells_P, isCell_P, low_P, stripC_P, strip_P, isTup_P]
    · rw [if_neg (by omega)]
      obtain ⟨p, rfl⟩ := Int.eq_ofNat_of_zero_le (show 0 ≤ at_ by omega)
      rw [Int.toNat_natCast]
      obtain ⟨q, hk⟩ := hone (hadd H [.cells [.slice false true 0 [], .bool false], .cells [.int .i64 0], .cells [.int .i64 0], .cells [.slice false true 0 [], .bool false], curB z b p]) (H.length + 4) p (by rw [get_loc]; rfl) (by omega)
      cases hr : r p <;> rw [hr] at hk <;> simp only [outC, outR, set_loc] at hk ⊢ <;> unfold curB at hk <;>
        simp (contextual := true) (dsimp := false) (disch := omega) only [↓goDown, goUp, List.length_cons, List.length_nil, List.map_cons, List.map_nil, List.take_succ_cons, List.take_zero, List.drop_succ_cons, List.drop_zero, List.drop_nil, List.take_nil, List.cons_append, List.nil_append, List.append_nil, List.set_cons_zero, List.set_cons_succ, List.all_cons, List.all_nil, ↓reduceIte, reduceCtorEq, ge_iff_le, gt_iff_lt, eq_self_iff_true, beq_self_eq_true, beq_iff_eq, bne_iff_ne, ne_eq, ite_not, Int.reduceEq, Option.getD_some, Option.getD_none, ite_self, Nat.reduceAdd, Nat.reduceSub, Nat.reduceMul, Nat.reduceLeDiff, Nat.reduceEqDiff, Nat.reduceBEq, Nat.reduceBNe, Int.reduceLT, Int.reduceLE, Int.reduceAdd, Int.reduceSub, Int.reduceMul, Int.reduceNeg, Int.reduceNe, Int.reduceBEq, Int.reduceBNe, Int.reduceToNat, h1, h2, List.length_map, run_mf, hk, flt, entry_read_api_RecType_1_req, entry_read_api_RecType_1_deq, run_ta, bi_if, bi_ifn, cutL, ne_len0, Nat.reduceBeqDiff, encR, shutP_nil, cells_P, isCell_P, low_P, stripC_P, strip_P, isTup_P]
end Go.Proofs.Ytofbbijagbpicaa.Pi.Q
namespace Go.Proofs.Ytofbbijagbpicaa.Pi.Q
open Go Go.Proofs.Ytofbbijagbpicaa.Pi
set_option linter.unusedVariables false
set_option linter.unusedSimpArgs false
set_option maxRecDepth 100000
attribute [local congr] ite_congr
theorem rList_many {α : Type} {b : List UInt8} {most p : Nat} {one : Nat → Rs α} : rList b most one p = match rMany b most p with | .ok n q => rRep one n q | .err a w => .err a w := by
  unfold rList rMany
  cases rU32 b p with
  | ok n q =>
    dsimp only
    by_cases h : most < n
    · rw [if_pos h, if_pos h]
    · rw [if_neg h, if_neg h]
  | err a w => rfl
end Go.Proofs.Ytofbbijagbpicaa.Pi.Q
namespace Go.Proofs.Ytofbbijagbpicaa.Pi.Q
open Go Go.Proofs.Ytofbbijagbpicaa.Pi
set_option linter.unusedVariables false
set_option linter.unusedSimpArgs false
set_option maxRecDepth 100000
attribute [local congr] ite_congr
theorem own_RecType {H : Heap} {b : List UInt8} {z : Bool} (hb : b.length < 2 ^ 61) {at_ : Int} :
    run (C k_entry_RecType [BS z b, .int .i64 at_]) H = some (.ok (atPl at_ b (encR zR) (outR encR (encR zR) (rRec b at_.toNat))) H) := by
  have h := fun L => read_R_is (z := z) hb (one := .fn k_entry_cursor_rec [] []) (r := rRec b) (fun H c p hH hp => rec_is hH hb hp) (H := hadd H L) (at_ := at_)
  rw [entry_RecType_eq]
  revert h
  refine atPl_cases (fun t => (∀ L, run (C k_entry_read_api_RecType [BS z b, .int .i64 at_, .fn k_entry_cursor_rec [] []]) (hadd H L) = some (.ok t (hadd H L))) → _ = some (Out.ok t H)) ?_ ?_ ?_ <;> intros <;> rename_i h <;> simp only [encR, shutP_nil, List.map_nil] at h ⊢ <;>
    simp (contextual := true) (dsimp := false) (disch := omega) only [↓goDown, goUp, List.length_cons, List.length_nil, List.map_cons, List.map_nil, List.take_succ_cons, List.take_zero, List.drop_succ_cons, List.drop_zero, List.drop_nil, List.take_nil, List.cons_append, List.nil_append, List.append_nil, List.set_cons_zero, List.set_cons_succ, List.all_cons, List.all_nil, ↓reduceIte, reduceCtorEq, ge_iff_le, gt_iff_lt, eq_self_iff_true, beq_self_eq_true, beq_iff_eq, bne_iff_ne, ne_eq, ite_not, Int.reduceEq, Option.getD_some, Option.getD_none, ite_self, Nat.reduceAdd, Nat.reduceSub, Nat.reduceMul, Nat.reduceLeDiff, Nat.reduceEqDiff, Nat.reduceBEq, Nat.reduceBNe, Int.reduceLT, Int.reduceLE, Int.reduceAdd, Int.reduceSub, Int.reduceMul, Int.reduceNeg, Int.reduceNe, Int.reduceBEq, Int.reduceBNe, Int.reduceToNat, h, encR, shutP_nil, List.map_nil, cells_P, isCell_P, low_P, stripC_P, strip_P, isTup_P]
end Go.Proofs.Ytofbbijagbpicaa.Pi.Q
namespace Go.Proofs.Ytofbbijagbpicaa.Pi.Q
open Go Go.Proofs.Ytofbbijagbpicaa.Pi
set_option linter.unusedVariables false
set_option linter.unusedSimpArgs false
set_option maxRecDepth 100000
attribute [local congr] ite_congr
theorem eql_int {H : Heap} {k : IntKind} {n : Int} : run (bi .eql .none (.int k n) (.int k n)) H = some (.ok (.bool true) H) := by
  unfold run
  rw [bi_eql, beq_self_eq_true]
  rfl
theorem eql_bool {H : Heap} {t : Bool} : run (bi .eql .bool (.bool t) (.bool t)) H = some (.ok (.bool true) H) := by cases t <;> rfl
theorem neq_bool {H : Heap} {t : Bool} : run (bi .neq .bool (.bool t) (.bool t)) H = some (.ok (.bool false) H) := by cases t <;> rfl
theorem same_self {H : Heap} {v : VT} : run (C k_ratchetref05_Same [encV v, encV v]) H = some (.ok (.bool true) H) := by
  rw [ratchetref05_Same_eq]
  by_cases h : v.num = 5
  · have e : (v.num = 5) = True := eq_true h
    simp (contextual := true) (dsimp := false) (disch := omega) only [↓goDown, goUp, List.length_cons, List.length_nil, List.map_cons, List.map_nil, List.take_succ_cons, List.take_zero, List.drop_succ_cons, List.drop_zero, List.drop_nil, List.take_nil, List.cons_append, List.nil_append, List.append_nil, List.set_cons_zero, List.set_cons_succ, List.all_cons, List.all_nil, ↓reduceIte, reduceCtorEq, ge_iff_le, gt_iff_lt, eq_self_iff_true, beq_self_eq_true, beq_iff_eq, bne_iff_ne, ne_eq, ite_not, Int.reduceEq, Option.getD_some, Option.getD_none, ite_self, Nat.reduceAdd, Nat.reduceSub, Nat.reduceMul, Nat.reduceLeDiff, Nat.reduceEqDiff, Nat.reduceBEq, Nat.reduceBNe, Int.reduceLT, Int.reduceLE, Int.reduceAdd, Int.reduceSub, Int.reduceMul, Int.reduceNeg, Int.reduceNe, Int.reduceBEq, Int.reduceBNe, Int.reduceToNat, cells_V, eql_int, eql_bool, e]
  · have e : (v.num = 5) = False := eq_false h
    simp (contextual := true) (dsimp := false) (disch := omega) only [↓goDown, goUp, List.length_cons, List.length_nil, List.map_cons, List.map_nil, List.take_succ_cons, List.take_zero, List.drop_succ_cons, List.drop_zero, List.drop_nil, List.take_nil, List.cons_append, List.nil_append, List.append_nil, List.set_cons_zero, List.set_cons_succ, List.all_cons, List.all_nil, ↓reduceIte, reduceCtorEq, ge_iff_le, gt_iff_lt, eq_self_iff_true, beq_self_eq_true, beq_iff_eq, bne_iff_ne, ne_eq, ite_not, Int.reduceEq, Option.getD_some, Option.getD_none, ite_self, Nat.reduceAdd, Nat.reduceSub, Nat.reduceMul, Nat.reduceLeDiff, Nat.reduceEqDiff, Nat.reduceBEq, Nat.reduceBNe, Int.reduceLT, Int.reduceLE, Int.reduceAdd, Int.reduceSub, Int.reduceMul, Int.reduceNeg, Int.reduceNe, Int.reduceBEq, Int.reduceBNe, Int.reduceToNat, cells_V, eql_int, eql_bool, e]
theorem ln_P {H : Heap} {sz : Nat} {l : List PV} : run (lnL (shutP sz l)) H = some (.ok (.int .i64 l.length) H) := by cases l <;> rfl
theorem ia_P {H : Heap} {sz : Nat} {l : List PV} {i : Nat} {x : PV} (h : l[i]? = some x) : run (iaS sz (shutP sz l) (.int .i64 i)) H = run (iaS sz (.slice false false sz l) (.int .i64 i)) H := by
  cases l with
  | nil => simp at h
  | cons a r => rfl
theorem sameVals_loop {H : Heap} {v4 : PV} {l : List VT} (hl : l.length < 2 ^ 62) : ∀ (m i : Nat), i + m = l.length → run (p_ratchetref05_SameVals_11010 (shutP 3 (l.map encV)) (shutP 3 (l.map encV)) v4 (.int .i64 i)) H = some (.ok (.bool true) H)
  | 0, i, h => by
    rw [p_ratchetref05_SameVals_11010_eq]
    have c1 : ¬ (i : Int) < l.length := by omega
    simp (contextual := true) (dsimp := false) (disch := omega) only [↓goDown, goUp, List.length_cons, List.length_nil, List.map_cons, List.map_nil, List.take_succ_cons, List.take_zero, List.drop_succ_cons, List.drop_zero, List.drop_nil, List.take_nil, List.cons_append, List.nil_append, List.append_nil, List.set_cons_zero, List.set_cons_succ, List.all_cons, List.all_nil, ↓reduceIte, reduceCtorEq, ge_iff_le, gt_iff_lt, eq_self_iff_true, beq_self_eq_true, beq_iff_eq, bne_iff_ne, ne_eq, ite_not, Int.reduceEq, Option.getD_some, Option.getD_none, ite_self, Nat.reduceAdd, Nat.reduceSub, Nat.reduceMul, Nat.reduceLeDiff, Nat.reduceEqDiff, Nat.reduceBEq, Nat.reduceBNe, Int.reduceLT, Int.reduceLE, Int.reduceAdd, Int.reduceSub, Int.reduceMul, Int.reduceNeg, Int.reduceNe, Int.reduceBEq, Int.reduceBNe, Int.reduceToNat, strip_P, ln_P, List.length_map, c1]
  | m + 1, i, h => by
    have ih := sameVals_loop hl (v4 := v4) (H := H) m (i + 1) (by omega)
    rw [p_ratchetref05_SameVals_11010_eq]
    have c1 : (i : Int) < l.length := by omega
    have hi : i < l.length := by omega
    have hg : (l.map encV)[i]? = some (encV l[i]) := by simp [hi]
    have hia : run (iaS 3 (shutP 3 (l.map encV)) (.int .i64 i)) H = some (.ok (.elem [.int .i64 l[i].num, .bool l[i].nul, .int .i64 l[i].heap]) H) := by
      rw [ia_P hg, run_iaS (by omega), Int.toNat_natCast, hg]
      rfl
    have hsame : run (C k_ratchetref05_Same [.agg [.int .i64 l[i].num, .bool l[i].nul, .int .i64 l[i].heap], .agg [.int .i64 l[i].num, .bool l[i].nul, .int .i64 l[i].heap]]) H = some (.ok (.bool true) H) := same_self
    simp (contextual := true) (dsimp := false) (disch := omega) only [↓goDown, goUp, List.length_cons, List.length_nil, List.map_cons, List.map_nil, List.take_succ_cons, List.take_zero, List.drop_succ_cons, List.drop_zero, List.drop_nil, List.take_nil, List.cons_append, List.nil_append, List.append_nil, List.set_cons_zero, List.set_cons_succ, List.all_cons, List.all_nil, ↓reduceIte, reduceCtorEq, ge_iff_le, gt_iff_lt, eq_self_iff_true, beq_self_eq_true, beq_iff_eq, bne_iff_ne, ne_eq, ite_not, Int.reduceEq, Option.getD_some, Option.getD_none, ite_self, Nat.reduceAdd, Nat.reduceSub, Nat.reduceMul, Nat.reduceLeDiff, Nat.reduceEqDiff, Nat.reduceBEq, Nat.reduceBNe, Int.reduceLT, Int.reduceLE, Int.reduceAdd, Int.reduceSub, Int.reduceMul, Int.reduceNeg, Int.reduceNe, Int.reduceBEq, Int.reduceBNe, Int.reduceToNat, strip_P, ln_P, List.length_map, c1, hia, hsame, un_not, ns]
    exact ih
theorem sameVals_self {H : Heap} {l : List VT} (hl : l.length < 2 ^ 62) : run (C k_ratchetref05_SameVals [shutP 3 (l.map encV), shutP 3 (l.map encV)]) H = some (.ok (.bool true) H) := by
  rw [ratchetref05_SameVals_eq]
  have lp : ∀ (v4 : PV) , run (p_ratchetref05_SameVals_11010 (shutP 3 (l.map encV)) (shutP 3 (l.map encV)) v4 (.int .i64 0)) H = some (.ok (.bool true) H) := fun v4 => sameVals_loop hl l.length 0 (by omega)
  simp (contextual := true) (dsimp := false) (disch := omega) only [↓goDown, goUp, List.length_cons, List.length_nil, List.map_cons, List.map_nil, List.take_succ_cons, List.take_zero, List.drop_succ_cons, List.drop_zero, List.drop_nil, List.take_nil, List.cons_append, List.nil_append, List.append_nil, List.set_cons_zero, List.set_cons_succ, List.all_cons, List.all_nil, ↓reduceIte, reduceCtorEq, ge_iff_le, gt_iff_lt, eq_self_iff_true, beq_self_eq_true, beq_iff_eq, bne_iff_ne, ne_eq, ite_not, Int.reduceEq, Option.getD_some, Option.getD_none, ite_self, Nat.reduceAdd, Nat.reduceSub, Nat.reduceMul, Nat.reduceLeDiff, Nat.reduceEqDiff, Nat.reduceBEq, Nat.reduceBNe, Int.reduceLT, Int.reduceLE, Int.reduceAdd, Int.reduceSub, Int.reduceMul, Int.reduceNeg, Int.reduceNe, Int.reduceBEq, Int.reduceBNe, Int.reduceToNat, strip_P, ln_P, neq_int, lp]
theorem sameFields_loop {H : Heap} {v4 : PV} {l : List FT} (hl : l.length < 2 ^ 62) : ∀ (m i : Nat), i + m = l.length → run (p_ratchetref05_sameFields_11010 (shutP 4 (l.map encF)) (shutP 4 (l.map encF)) v4 (.int .i64 i)) H = some (.ok (.bool true) H)
  | 0, i, h => by
    rw [p_ratchetref05_sameFields_11010_eq]
    have c1 : ¬ (i : Int) < l.length := by omega
    simp (contextual := true) (dsimp := false) (disch := omega) only [↓goDown, goUp, List.length_cons, List.length_nil, List.map_cons, List.map_nil, List.take_succ_cons, List.take_zero, List.drop_succ_cons, List.drop_zero, List.drop_nil, List.take_nil, List.cons_append, List.nil_append, List.append_nil, List.set_cons_zero, List.set_cons_succ, List.all_cons, List.all_nil, ↓reduceIte, reduceCtorEq, ge_iff_le, gt_iff_lt, eq_self_iff_true, beq_self_eq_true, beq_iff_eq, bne_iff_ne, ne_eq, ite_not, Int.reduceEq, Option.getD_some, Option.getD_none, ite_self, Nat.reduceAdd, Nat.reduceSub, Nat.reduceMul, Nat.reduceLeDiff, Nat.reduceEqDiff, Nat.reduceBEq, Nat.reduceBNe, Int.reduceLT, Int.reduceLE, Int.reduceAdd, Int.reduceSub, Int.reduceMul, Int.reduceNeg, Int.reduceNe, Int.reduceBEq, Int.reduceBNe, Int.reduceToNat, strip_P, ln_P, List.length_map, c1]
  | m + 1, i, h => by
    have ih := sameFields_loop hl (v4 := v4) (H := H) m (i + 1) (by omega)
    rw [p_ratchetref05_sameFields_11010_eq]
    have c1 : (i : Int) < l.length := by omega
    have hi : i < l.length := by omega
    have hg : (l.map encF)[i]? = some (encF l[i]) := by simp [hi]
    have hia : run (iaS 4 (shutP 4 (l.map encF)) (.int .i64 i)) H = some (.ok (.elem [.int .i64 l[i].ty.num, .bool l[i].ty.nul, .int .i64 l[i].ty.heap, .bool l[i].mu]) H) := by
      rw [ia_P hg, run_iaS (by omega), Int.toNat_natCast, hg]
      rfl
    have hsame : run (C k_ratchetref05_Same [.agg [.int .i64 l[i].ty.num, .bool l[i].ty.nul, .int .i64 l[i].ty.heap], .agg [.int .i64 l[i].ty.num, .bool l[i].ty.nul, .int .i64 l[i].ty.heap]]) H = some (.ok (.bool true) H) := same_self
    simp (contextual := true) (dsimp := false) (disch := omega) only [↓goDown, goUp, List.length_cons, List.length_nil, List.map_cons, List.map_nil, List.take_succ_cons, List.take_zero, List.drop_succ_cons, List.drop_zero, List.drop_nil, List.take_nil, List.cons_append, List.nil_append, List.append_nil, List.set_cons_zero, List.set_cons_succ, List.all_cons, List.all_nil, ↓reduceIte, reduceCtorEq, ge_iff_le, gt_iff_lt, eq_self_iff_true, beq_self_eq_true, beq_iff_eq, bne_iff_ne, ne_eq, ite_not, Int.reduceEq, Option.getD_some, Option.getD_none, ite_self, Nat.reduceAdd, Nat.reduceSub, Nat.reduceMul, Nat.reduceLeDiff, Nat.reduceEqDiff, Nat.reduceBEq, Nat.reduceBNe, Int.reduceLT, Int.reduceLE, Int.reduceAdd, Int.reduceSub, Int.reduceMul, Int.reduceNeg, Int.reduceNe, Int.reduceBEq, Int.reduceBNe, Int.reduceToNat, strip_P, ln_P, List.length_map, c1, hia, hsame, un_not, ns, neq_bool]
    exact ih
theorem sameFields_self {H : Heap} {l : List FT} (hl : l.length < 2 ^ 62) : run (C k_ratchetref05_sameFields [shutP 4 (l.map encF), shutP 4 (l.map encF)]) H = some (.ok (.bool true) H) := by
  rw [ratchetref05_sameFields_eq]
  have lp : ∀ (v4 : PV) , run (p_ratchetref05_sameFields_11010 (shutP 4 (l.map encF)) (shutP 4 (l.map encF)) v4 (.int .i64 0)) H = some (.ok (.bool true) H) := fun v4 => sameFields_loop hl l.length 0 (by omega)
  simp (contextual := true) (dsimp := false) (disch := omega) only [↓goDown, goUp, List.length_cons, List.length_nil, List.map_cons, List.map_nil, List.take_succ_cons, List.take_zero, List.drop_succ_cons, List.drop_zero, List.drop_nil, List.take_nil, List.cons_append, List.nil_append, List.append_nil, List.set_cons_zero, List.set_cons_succ, List.all_cons, List.all_nil, ↓reduceIte, reduceCtorEq, ge_iff_le, gt_iff_lt, eq_self_iff_true, beq_self_eq_true, beq_iff_eq, bne_iff_ne, ne_eq, ite_not, Int.reduceEq, Option.getD_some, Option.getD_none, ite_self, Nat.reduceAdd, Nat.reduceSub, Nat.reduceMul, Nat.reduceLeDiff, Nat.reduceEqDiff, Nat.reduceBEq, Nat.reduceBNe, Int.reduceLT, Int.reduceLE, Int.reduceAdd, Int.reduceSub, Int.reduceMul, Int.reduceNeg, Int.reduceNe, Int.reduceBEq, Int.reduceBNe, Int.reduceToNat, strip_P, ln_P, neq_int, lp]
def CT.fit (v : CT) : Prop := v.ps.length < 2 ^ 62 ∧ v.rs.length < 2 ^ 62 ∧ v.fs.length < 2 ^ 62
def ST.fit (v : ST) : Prop := v.sup.length < 2 ^ 62 ∧ v.comp.fit
def RT.fit (v : RT) : Prop := v.types.length < 2 ^ 62 ∧ ∀ t ∈ v.types, t.fit
theorem sameSub_loop {H : Heap} {v4 : PV} {v : ST} (hv : v.fit) : ∀ (m i : Nat), i + m = v.sup.length → run (p_ratchetref05_SameSub_11010 (.ptr H.length 0) (.ptr (H.length + 1) 0) v4 (.int .i64 i)) (hadd H [.cells (csS v), .cells (csS v)]) = some (.ok (.bool true) (hadd H [.cells (csS v), .cells (csS v)]))
  | 0, i, h => by
    obtain ⟨h1, h2, h3, h4⟩ := hv
    have s1 := fun L => sameVals_self (H := hadd H L) h2
    have s2 := fun L => sameVals_self (H := hadd H L) h3
    have s3 := fun L => sameFields_self (H := hadd H L) h4
    rw [p_ratchetref05_SameSub_11010_eq]
    have c1 : ¬ (i : Int) < v.sup.length := by omega
    simp (contextual := true) (dsimp := false) (disch := omega) only [↓goDown, goUp, List.length_cons, List.length_nil, List.map_cons, List.map_nil, List.take_succ_cons, List.take_zero, List.drop_succ_cons, List.drop_zero, List.drop_nil, List.take_nil, List.cons_append, List.nil_append, List.append_nil, List.set_cons_zero, List.set_cons_succ, List.all_cons, List.all_nil, ↓reduceIte, reduceCtorEq, ge_iff_le, gt_iff_lt, eq_self_iff_true, beq_self_eq_true, beq_iff_eq, bne_iff_ne, ne_eq, ite_not, Int.reduceEq, Option.getD_some, Option.getD_none, ite_self, Nat.reduceAdd, Nat.reduceSub, Nat.reduceMul, Nat.reduceLeDiff, Nat.reduceEqDiff, Nat.reduceBEq, Nat.reduceBNe, Int.reduceLT, Int.reduceLE, Int.reduceAdd, Int.reduceSub, Int.reduceMul, Int.reduceNeg, Int.reduceNe, Int.reduceBEq, Int.reduceBNe, Int.reduceToNat, csS, strip_P, ln_P, List.length_map, c1, cells_P, isCell_P, low_P, stripC_P, isTup_P, s1, s2, s3]
  | m + 1, i, h => by
    have ih := sameSub_loop hv (v4 := v4) (H := H) m (i + 1) (by omega)
    have h1 := hv.1
    rw [p_ratchetref05_SameSub_11010_eq]
    have c1 : (i : Int) < v.sup.length := by omega
    have hi : i < v.sup.length := by omega
    have hg : (v.sup.map encI)[i]? = some (encI v.sup[i]) := by simp [hi]
    have hia : ∀ K, run (iaS 1 (shutP 1 (v.sup.map encI)) (.int .i64 i)) K = some (.ok (.elem [.int .i64 v.sup[i]]) K) := fun K => by
      rw [ia_P hg, run_iaS (by omega), Int.toNat_natCast, hg]
      rfl
    unfold csS at ih ⊢
    simp (contextual := true) (dsimp := false) (disch := omega) only [↓goDown, goUp, List.length_cons, List.length_nil, List.map_cons, List.map_nil, List.take_succ_cons, List.take_zero, List.drop_succ_cons, List.drop_zero, List.drop_nil, List.take_nil, List.cons_append, List.nil_append, List.append_nil, List.set_cons_zero, List.set_cons_succ, List.all_cons, List.all_nil, ↓reduceIte, reduceCtorEq, ge_iff_le, gt_iff_lt, eq_self_iff_true, beq_self_eq_true, beq_iff_eq, bne_iff_ne, ne_eq, ite_not, Int.reduceEq, Option.getD_some, Option.getD_none, ite_self, Nat.reduceAdd, Nat.reduceSub, Nat.reduceMul, Nat.reduceLeDiff, Nat.reduceEqDiff, Nat.reduceBEq, Nat.reduceBNe, Int.reduceLT, Int.reduceLE, Int.reduceAdd, Int.reduceSub, Int.reduceMul, Int.reduceNeg, Int.reduceNe, Int.reduceBEq, Int.reduceBNe, Int.reduceToNat, strip_P, ln_P, List.length_map, c1, cells_P, isCell_P, low_P, stripC_P, isTup_P, hia, neq_int, ns]
    exact ih
theorem sameSub_self {H : Heap} {v : ST} (hv : v.fit) : run (C k_ratchetref05_SameSub [encS v, encS v]) H = some (.ok (.bool true) H) := by
  rw [ratchetref05_SameSub_eq]
  have lp : ∀ v4, run (p_ratchetref05_SameSub_11010 (.ptr H.length 0) (.ptr (H.length + 1) 0) v4 (.int .i64 0)) (hadd H [.cells (csS v), .cells (csS v)]) = some (.ok (.bool true) (hadd H [.cells (csS v), .cells (csS v)])) := fun v4 => sameSub_loop (H := H) (v4 := v4) hv v.sup.length 0 (by omega)
  unfold encS
  unfold csS at lp ⊢
  simp (contextual := true) (dsimp := false) (disch := omega) only [↓goDown, goUp, List.length_cons, List.length_nil, List.map_cons, List.map_nil, List.take_succ_cons, List.take_zero, List.drop_succ_cons, List.drop_zero, List.drop_nil, List.take_nil, List.cons_append, List.nil_append, List.append_nil, List.set_cons_zero, List.set_cons_succ, List.all_cons, List.all_nil, ↓reduceIte, reduceCtorEq, ge_iff_le, gt_iff_lt, eq_self_iff_true, beq_self_eq_true, beq_iff_eq, bne_iff_ne, ne_eq, ite_not, Int.reduceEq, Option.getD_some, Option.getD_none, ite_self, Nat.reduceAdd, Nat.reduceSub, Nat.reduceMul, Nat.reduceLeDiff, Nat.reduceEqDiff, Nat.reduceBEq, Nat.reduceBNe, Int.reduceLT, Int.reduceLE, Int.reduceAdd, Int.reduceSub, Int.reduceMul, Int.reduceNeg, Int.reduceNe, Int.reduceBEq, Int.reduceBNe, Int.reduceToNat, strip_P, ln_P, cells_P, isCell_P, low_P, stripC_P, isTup_P, neq_int, neq_bool, lp]
theorem sameRec_loop {H : Heap} {v4 : PV} {v : RT} (hv : v.fit) : ∀ (m i : Nat), i + m = v.types.length → run (p_ratchetref05_SameRec_11010 (.ptr H.length 0) (.ptr (H.length + 1) 0) v4 (.int .i64 i)) (hadd H [.cells [shutP 6 (v.types.map encS), .bool v.exp], .cells [shutP 6 (v.types.map encS), .bool v.exp]]) = some (.ok (.bool true) (hadd H [.cells [shutP 6 (v.types.map encS), .bool v.exp], .cells [shutP 6 (v.types.map encS), .bool v.exp]]))
  | 0, i, h => by
    rw [p_ratchetref05_SameRec_11010_eq]
    have c1 : ¬ (i : Int) < v.types.length := by omega
    simp (contextual := true) (dsimp := false) (disch := omega) only [↓goDown, goUp, List.length_cons, List.length_nil, List.map_cons, List.map_nil, List.take_succ_cons, List.take_zero, List.drop_succ_cons, List.drop_zero, List.drop_nil, List.take_nil, List.cons_append, List.nil_append, List.append_nil, List.set_cons_zero, List.set_cons_succ, List.all_cons, List.all_nil, ↓reduceIte, reduceCtorEq, ge_iff_le, gt_iff_lt, eq_self_iff_true, beq_self_eq_true, beq_iff_eq, bne_iff_ne, ne_eq, ite_not, Int.reduceEq, Option.getD_some, Option.getD_none, ite_self, Nat.reduceAdd, Nat.reduceSub, Nat.reduceMul, Nat.reduceLeDiff, Nat.reduceEqDiff, Nat.reduceBEq, Nat.reduceBNe, Int.reduceLT, Int.reduceLE, Int.reduceAdd, Int.reduceSub, Int.reduceMul, Int.reduceNeg, Int.reduceNe, Int.reduceBEq, Int.reduceBNe, Int.reduceToNat, strip_P, ln_P, List.length_map, c1, cells_P, isCell_P, low_P, stripC_P, isTup_P]
  | m + 1, i, h => by
    have ih := sameRec_loop hv (v4 := v4) (H := H) m (i + 1) (by omega)
    have h1 := hv.1
    rw [p_ratchetref05_SameRec_11010_eq]
    have c1 : (i : Int) < v.types.length := by omega
    have hi : i < v.types.length := by omega
    have hf := hv.2 _ (List.getElem_mem hi)
    have hg : (v.types.map encS)[i]? = some (encS v.types[i]) := by simp [hi]
    have hia : ∀ K, run (iaS 6 (shutP 6 (v.types.map encS)) (.int .i64 i)) K = some (.ok (.elem (csS v.types[i])) K) := fun K => by
      rw [ia_P hg, run_iaS (by omega), Int.toNat_natCast, hg]
      rfl
    have hs : ∀ L, run (C k_ratchetref05_SameSub [.agg (csS v.types[i]), .agg (csS v.types[i])]) (hadd H L) = some (.ok (.bool true) (hadd H L)) := fun L => sameSub_self hf
    unfold csS at hia hs
    simp (contextual := true) (dsimp := false) (disch := omega) only [↓goDown, goUp, List.length_cons, List.length_nil, List.map_cons, List.map_nil, List.take_succ_cons, List.take_zero, List.drop_succ_cons, List.drop_zero, List.drop_nil, List.take_nil, List.cons_append, List.nil_append, List.append_nil, List.set_cons_zero, List.set_cons_succ, List.all_cons, List.all_nil, ↓reduceIte, reduceCtorEq, ge_iff_le, gt_iff_lt, eq_self_iff_true, beq_self_eq_true, beq_iff_eq, bne_iff_ne, ne_eq, ite_not, Int.reduceEq, Option.getD_some, Option.getD_none, ite_self, Nat.reduceAdd, Nat.reduceSub, Nat.reduceMul, Nat.reduceLeDiff, Nat.reduceEqDiff, Nat.reduceBEq, Nat.reduceBNe, Int.reduceLT, Int.reduceLE, Int.reduceAdd, Int.reduceSub, Int.reduceMul, Int.reduceNeg, Int.reduceNe, Int.reduceBEq, Int.reduceBNe, Int.reduceToNat, strip_P, ln_P, List.length_map, c1, cells_P, isCell_P, low_P, stripC_P, isTup_P, hia, hs, un_not, ns]
    exact ih
theorem sameRec_self {H : Heap} {v : RT} (hv : v.fit) : run (C k_ratchetref05_SameRec [encR v, encR v]) H = some (.ok (.bool true) H) := by
  rw [ratchetref05_SameRec_eq]
  have lp : ∀ v4, run (p_ratchetref05_SameRec_11010 (.ptr H.length 0) (.ptr (H.length + 1) 0) v4 (.int .i64 0)) (hadd H [.cells [shutP 6 (v.types.map encS), .bool v.exp], .cells [shutP 6 (v.types.map encS), .bool v.exp]]) = some (.ok (.bool true) (hadd H [.cells [shutP 6 (v.types.map encS), .bool v.exp], .cells [shutP 6 (v.types.map encS), .bool v.exp]])) := fun v4 => sameRec_loop (H := H) (v4 := v4) hv v.types.length 0 (by omega)
  unfold encR
  simp (contextual := true) (dsimp := false) (disch := omega) only [↓goDown, goUp, List.length_cons, List.length_nil, List.map_cons, List.map_nil, List.take_succ_cons, List.take_zero, List.drop_succ_cons, List.drop_zero, List.drop_nil, List.take_nil, List.cons_append, List.nil_append, List.append_nil, List.set_cons_zero, List.set_cons_succ, List.all_cons, List.all_nil, ↓reduceIte, reduceCtorEq, ge_iff_le, gt_iff_lt, eq_self_iff_true, beq_self_eq_true, beq_iff_eq, bne_iff_ne, ne_eq, ite_not, Int.reduceEq, Option.getD_some, Option.getD_none, ite_self, Nat.reduceAdd, Nat.reduceSub, Nat.reduceMul, Nat.reduceLeDiff, Nat.reduceEqDiff, Nat.reduceBEq, Nat.reduceBNe, Int.reduceLT, Int.reduceLE, Int.reduceAdd, Int.reduceSub, Int.reduceMul, Int.reduceNeg, Int.reduceNe, Int.reduceBEq, Int.reduceBNe, Int.reduceToNat, strip_P, ln_P, cells_P, isCell_P, low_P, stripC_P, isTup_P, neq_int, neq_bool, lp]
theorem rComp_fit {b : List UInt8} {p q : Nat} {v : CT} (h : rComp b p = .ok v q) : v.fit := by
  have hV : ∀ {p q l}, rVals b p = .ok l q → l.length < 2 ^ 62 := fun h => by have := (rList_le (fun p v q h => rVal_le h) h).2; omega
  have hF : ∀ {p q l}, rFields b p = .ok l q → l.length < 2 ^ 62 := fun h => by have := (rList_le (fun p v q h => rField_le h) h).2; omega
  unfold rComp at h
  split at h
  · split at h
    · unfold rFunc at h
      cases h1 : rVals b (p + 1) with
      | ok ps q1 =>
        rw [h1] at h
        dsimp only at h
        cases h2 : rVals b q1 with
        | ok rs q2 =>
          rw [h2] at h
          simp only [rsFunc, Rs.ok.injEq] at h
          obtain ⟨rfl, -⟩ := h
          exact ⟨hV h1, hV h2, by simp⟩
        | err a w => rw [h2] at h; cases h
      | err a w => rw [h1] at h; cases h
    · split at h
      · cases h1 : rFields b (p + 1) with
        | ok fs q1 =>
          rw [h1] at h
          simp only [rsStruct, Rs.ok.injEq] at h
          obtain ⟨rfl, -⟩ := h
          exact ⟨by simp, by simp, hF h1⟩
        | err a w => rw [h1] at h; cases h
      · split at h
        · cases h1 : rField b (p + 1) with
          | ok fs q1 =>
            rw [h1] at h
            simp only [rsArray, Rs.ok.injEq] at h
            obtain ⟨rfl, -⟩ := h
            exact ⟨by simp, by simp, by simp⟩
          | err a w => rw [h1] at h; cases h
        · cases h
  · cases h
theorem rsSub_fit {b : List UInt8} {f : Bool} {s : List Int} {p q : Nat} {v : ST} (hs : s.length < 2 ^ 62) (h : rsSub f s (rComp b p) = .ok v q) : v.fit := by
  cases h1 : rComp b p with
  | ok c q1 =>
    rw [h1] at h
    simp only [rsSub, Rs.ok.injEq] at h
    obtain ⟨rfl, -⟩ := h
    exact ⟨hs, rComp_fit h1⟩
  | err a w => rw [h1] at h; cases h
theorem rSub_fit {b : List UInt8} {p q : Nat} {v : ST} (h : rSub b p = .ok v q) : v.fit := by
  have hS : ∀ {f p q v}, rSubs b f p = .ok v q → v.fit := fun {f p q v} h => by
    unfold rSubs at h
    cases h1 : rSupers b p with
    | ok s q1 =>
      rw [h1] at h
      have := (rList_le (fun p v q h => rIndex_le h) h1).2
      exact rsSub_fit (by omega) h
    | err a w => rw [h1] at h; cases h
  unfold rSub at h
  split at h
  · split at h
    · exact hS h
    · split at h
      · exact hS h
      · exact rsSub_fit (by simp) h
  · cases h
theorem rRep_all {α : Type} {one : Nat → Rs α} {P : α → Prop} (h1 : ∀ p v q, one p = .ok v q → P v) : ∀ n p l q, rRep one n p = .ok l q → ∀ v ∈ l, P v
  | 0, p, l, q, h => by unfold rRep at h; cases h; simp
  | n + 1, p, l, q, h => by
    unfold rRep at h
    cases hr : one p with
    | ok v q1 =>
      rw [hr] at h
      dsimp only at h
      cases hs : rRep one n q1 with
      | ok l2 q2 =>
        rw [hs] at h
        simp only [rsCons, Rs.ok.injEq] at h
        obtain ⟨rfl, rfl⟩ := h
        intro u hu
        rcases List.mem_cons.mp hu with rfl | hu
        · exact h1 _ _ _ hr
        · exact rRep_all h1 n q1 l2 q2 hs u hu
      | err a w => rw [hs] at h; cases h
    | err a w => rw [hr] at h; cases h
theorem rRec_fit {b : List UInt8} {p q : Nat} {v : RT} (h : rRec b p = .ok v q) : v.fit := by
  unfold rRec at h
  split at h
  · split at h
    · cases h1 : rTypes b (p + 1) with
      | ok l q1 =>
        rw [h1] at h
        simp only [rsExp, Rs.ok.injEq] at h
        obtain ⟨rfl, -⟩ := h
        have hl := (rList_le (fun p v q h => rSub_le h) h1).2
        refine ⟨by show l.length < _; omega, ?_⟩
        unfold rTypes at h1
        rw [rList_many] at h1
        cases hm : rMany b 10000 (p + 1) with
        | ok n q2 => rw [hm] at h1; exact rRep_all (fun p v q h => rSub_fit h) _ _ _ _ h1
        | err a w => rw [hm] at h1; cases h1
      | err a w => rw [h1] at h; cases h
    · cases h1 : rSub b p with
      | ok t q1 =>
        rw [h1] at h
        simp only [rsOne, Rs.ok.injEq] at h
        obtain ⟨rfl, -⟩ := h
        refine ⟨by simp, fun u hu => ?_⟩
        obtain rfl := List.mem_singleton.mp hu
        exact rSub_fit h1
      | err a w => rw [h1] at h; cases h
  · cases h
end Go.Proofs.Ytofbbijagbpicaa.Pi.Q
namespace Go.Proofs.Ytofbbijagbpicaa.Pi.Q
open Go Go.Proofs.Ytofbbijagbpicaa.Pi
set_option linter.unusedVariables false
set_option linter.unusedSimpArgs false
set_option maxRecDepth 100000
attribute [local congr] ite_congr
def accB (b : List UInt8) : PV := accP 1 (bytes b)
theorem byt_of {n : Nat} (h : n < 256) : byt (UInt8.ofNat n) = .int .u8 n := by
  unfold byt
  rw [UInt8.toNat_ofNat', Nat.mod_eq_of_lt h]
theorem bsR_byt {n : Nat} (h : n < 256) {K : Heap} : bsR true none [.int .u8 n] K = some (.ok (.slice true false 1 [byt (UInt8.ofNat n)]) K) := by
  rw [byt_of h]
  rfl
theorem ap_B {acc : List UInt8} {c : UInt8} {K : Heap} (h : acc.length + 1 ≤ 140737488355328) : run (ap true 1 1 (accB acc) (.slice true false 1 [byt c])) K = some (.ok (accB (acc ++ [c])) K) := by
  have := ap_acc (H := K) (sz := 1) (b := 1) (l := bytes acc) (v := byt c) (o := true) (by simpa [bytes] using h)
  unfold accB
  rw [this]
  simp [bytes]
def putU (n : Nat) : List UInt8 := if n < 128 then [UInt8.ofNat n] else UInt8.ofNat (n % 128 + 128) :: putU (n / 128)
termination_by n
decreasing_by omega
theorem or128 : ∀ m : Fin 256, IntKind.u8.wrap (BitVec.ofInt 8 (m.val : Int) ||| BitVec.ofInt 8 128).toNat = ((m.val % 128 + 128 : Nat) : Int) := by decide +kernel
theorem or_byte (n : Nat) : bi .or .none (.int .u8 ((n % 256 : Nat) : Int)) (.int .u8 128) = M.pure (.int .u8 ((n % 128 + 128 : Nat) : Int)) := by
  rw [run_or]
  have := or128 ⟨n % 256, by omega⟩
  have e : n % 256 % 128 = n % 128 := by omega
  simp only [e] at this
  rw [show IntKind.u8.bits = 8 from rfl, this]
theorem shr7 (n : Nat) : bi .shr .none (.int .u64 (n : Int)) (.int .u64 7) = M.pure (.int .u64 ((n / 128 : Nat) : Int)) := by
  rw [run_shr (by omega)]
  have : (n : Int).fdiv (2 ^ shiftN .u64 7) = ((n / 128 : Nat) : Int) := by
    have e : (2 : Int) ^ shiftN .u64 7 = 128 := by decide
    rw [e]
    simp [Int.fdiv_eq_ediv]
  rw [this]
theorem putU_loop {H : Heap} {v2 : PV} : ∀ (m n : Nat) (acc : List UInt8), n < 128 ^ (m + 1) → n < 2 ^ 64 → acc.length + m < 1000 → run (p_leb_PutU_1100 (.int .u64 n) v2 (accB acc)) H = some (.ok (accB (acc ++ putU n)) H)
  | m, n, acc, h, hn, hl => by
    have hap := fun c K => ap_B (acc := acc) (c := c) (K := K) (by omega)
    have ht : isTup (accB (acc ++ [UInt8.ofNat n])) = false := isTup_acc
    by_cases h1 : n < 128
    · have c1 : ¬ (127 : Int) < n := by omega
      have hbs := fun K => bsR_byt (n := n) (by omega) (K := K)
      rw [p_leb_PutU_1100_eq, putU, if_pos h1]
      simp (contextual := true) (dsimp := false) (disch := omega) only [↓goDown, goUp, List.length_cons, List.length_nil, List.map_cons, List.map_nil, List.take_succ_cons, List.take_zero, List.drop_succ_cons, List.drop_zero, List.drop_nil, List.take_nil, List.cons_append, List.nil_append, List.append_nil, List.set_cons_zero, List.set_cons_succ, List.all_cons, List.all_nil, ↓reduceIte, reduceCtorEq, ge_iff_le, gt_iff_lt, eq_self_iff_true, beq_self_eq_true, beq_iff_eq, bne_iff_ne, ne_eq, ite_not, Int.reduceEq, Option.getD_some, Option.getD_none, ite_self, Nat.reduceAdd, Nat.reduceSub, Nat.reduceMul, Nat.reduceLeDiff, Nat.reduceEqDiff, Nat.reduceBEq, Nat.reduceBNe, Int.reduceLT, Int.reduceLE, Int.reduceAdd, Int.reduceSub, Int.reduceMul, Int.reduceNeg, Int.reduceNe, Int.reduceBEq, Int.reduceBNe, Int.reduceToNat, c1, hbs, hap, ht]
    · cases m with
      | zero => simp at h; omega
      | succ m =>
        have c1 : (127 : Int) < n := by omega
        have hw : IntKind.u8.wrap (n : Int) = ((n % 256 : Nat) : Int) := by rw [show IntKind.u8.wrap (n : Int) = (n : Int) % 256 from rfl]; omega
        have hbs := fun K => bsR_byt (n := n % 128 + 128) (by omega) (K := K)
        have ih := putU_loop (H := H) (v2 := v2) m (n / 128) (acc ++ [UInt8.ofNat (n % 128 + 128)]) (by
          have : 128 ^ (m + 1 + 1) = 128 ^ (m + 1) * 128 := Nat.pow_succ ..
          exact Nat.div_lt_of_lt_mul (by omega)) (by omega) (by simp; omega)
        rw [p_leb_PutU_1100_eq, putU, if_neg h1]
        simp (contextual := true) (dsimp := false) (disch := omega) only [↓goDown, goUp, List.length_cons, List.length_nil, List.map_cons, List.map_nil, List.take_succ_cons, List.take_zero, List.drop_succ_cons, List.drop_zero, List.drop_nil, List.take_nil, List.cons_append, List.nil_append, List.append_nil, List.set_cons_zero, List.set_cons_succ, List.all_cons, List.all_nil, ↓reduceIte, reduceCtorEq, ge_iff_le, gt_iff_lt, eq_self_iff_true, beq_self_eq_true, beq_iff_eq, bne_iff_ne, ne_eq, ite_not, Int.reduceEq, Option.getD_some, Option.getD_none, ite_self, Nat.reduceAdd, Nat.reduceSub, Nat.reduceMul, Nat.reduceLeDiff, Nat.reduceEqDiff, Nat.reduceBEq, Nat.reduceBNe, Int.reduceLT, Int.reduceLE, Int.reduceAdd, Int.reduceSub, Int.reduceMul, Int.reduceNeg, Int.reduceNe, Int.reduceBEq, Int.reduceBNe, Int.reduceToNat, c1, hw, or_byte, shr7, hbs, hap]
        rw [ih]
        simp
theorem putU_is {H : Heap} {n : Nat} (hn : n < 2 ^ 64) : run (C k_leb_PutU [.int .u64 n]) H = some (.ok (accB (putU n)) H) := by
  rw [leb_PutU_eq]
  have h := putU_loop (H := H) (v2 := .slice false true 0 []) 9 n [] (by omega) hn (by simp)
  have h : run (p_leb_PutU_1100 (.int .u64 n) (.slice false true 0 []) (.slice false true 0 [])) H = some (.ok (accB (putU n)) H) := h
  have hl : ∀ k, (accB (putU n)).low k = true := fun k => low_acc
  simp (contextual := true) (dsimp := false) (disch := omega) only [↓goDown, goUp, List.length_cons, List.length_nil, List.map_cons, List.map_nil, List.take_succ_cons, List.take_zero, List.drop_succ_cons, List.drop_zero, List.drop_nil, List.take_nil, List.cons_append, List.nil_append, List.append_nil, List.set_cons_zero, List.set_cons_succ, List.all_cons, List.all_nil, ↓reduceIte, reduceCtorEq, ge_iff_le, gt_iff_lt, eq_self_iff_true, beq_self_eq_true, beq_iff_eq, bne_iff_ne, ne_eq, ite_not, Int.reduceEq, Option.getD_some, Option.getD_none, ite_self, Nat.reduceAdd, Nat.reduceSub, Nat.reduceMul, Nat.reduceLeDiff, Nat.reduceEqDiff, Nat.reduceBEq, Nat.reduceBNe, Int.reduceLT, Int.reduceLE, Int.reduceAdd, Int.reduceSub, Int.reduceMul, Int.reduceNeg, Int.reduceNe, Int.reduceBEq, Int.reduceBNe, Int.reduceToNat, h, hl]
theorem putU_len : ∀ (m n : Nat), n < 128 ^ (m + 1) → (putU n).length ≤ m + 1
  | m, n, h => by
    rw [putU]
    split
    · simp
    · cases m with
      | zero => simp at h; omega
      | succ m =>
        have := putU_len m (n / 128) (by
          have : 128 ^ (m + 1 + 1) = 128 ^ (m + 1) * 128 := Nat.pow_succ ..
          exact Nat.div_lt_of_lt_mul (by omega))
        simp only [List.length_cons]
        omega
end Go.Proofs.Ytofbbijagbpicaa.Pi.Q
namespace Go.Proofs.Ytofbbijagbpicaa.Pi.Q
open Go Go.Proofs.Ytofbbijagbpicaa.Pi
set_option linter.unusedVariables false
set_option linter.unusedSimpArgs false
set_option maxRecDepth 100000
attribute [local congr] ite_congr
def putS (n : Int) : List UInt8 := if -64 ≤ n ∧ n ≤ 63 then [UInt8.ofNat (n % 128).toNat] else UInt8.ofNat ((n % 128).toNat + 128) :: putS (n / 128)
termination_by n.natAbs
decreasing_by omega
theorem and127 : ∀ m : Fin 256, IntKind.u8.wrap (BitVec.ofInt 8 (m.val : Int) &&& BitVec.ofInt 8 127).toNat = ((m.val % 128 : Nat) : Int) := by decide +kernel
theorem and_byte (n : Nat) : bi .and .none (.int .u8 ((n % 256 : Nat) : Int)) (.int .u8 127) = M.pure (.int .u8 ((n % 128 : Nat) : Int)) := by
  rw [run_and]
  have := and127 ⟨n % 256, by omega⟩
  have e : n % 256 % 128 = n % 128 := by omega
  simp only [e] at this
  rw [show IntKind.u8.bits = 8 from rfl, this]
theorem shrS (n : Int) : bi .shr .none (.int .i64 n) (.int .u64 7) = M.pure (.int .i64 (n / 128)) := by
  rw [run_shr (by omega)]
  have : n.fdiv (2 ^ shiftN .i64 7) = n / 128 := by
    have e : (2 : Int) ^ shiftN .i64 7 = 128 := by decide
    rw [e]
    simp [Int.fdiv_eq_ediv]
  rw [this]
theorem putS_loop {H : Heap} {v2 : PV} : ∀ (m : Nat) (n : Int) (acc : List UInt8), -(64 * 128 ^ m) ≤ n → n < 64 * 128 ^ m → -9223372036854775808 ≤ n → n ≤ 9223372036854775807 → acc.length + m < 1000 →
    run (p_leb_PutS_1100 (.int .i64 n) v2 (accB acc)) H = some (.ok (accB (acc ++ putS n)) H)
  | m, n, acc, h, h', hn, hn', hl => by
    have hap := fun c K => ap_B (acc := acc) (c := c) (K := K) (by omega)
    have hm : ((n % 128).toNat : Int) = n % 128 := Int.toNat_of_nonneg (by omega)
    have hw : IntKind.u8.wrap n = (((n % 256).toNat % 256 : Nat) : Int) := by rw [show IntKind.u8.wrap n = n % 256 from rfl]; omega
    have e128 : (n % 256).toNat % 128 = (n % 128).toNat := by omega
    by_cases h1 : -64 ≤ n ∧ n ≤ 63
    · have c1 : ¬ n < -64 := by omega
      have c2 : ¬ 63 < n := by omega
      have ha := and_byte (n % 256).toNat
      rw [e128] at ha
      have hbs := fun K => bsR_byt (n := (n % 128).toNat) (by omega) (K := K)
      have ht : isTup (accB (acc ++ [UInt8.ofNat (n % 128).toNat])) = false := isTup_acc
      rw [p_leb_PutS_1100_eq, putS, if_pos h1]
      simp (contextual := true) (dsimp := false) (disch := omega) only [↓goDown, goUp, List.length_cons, List.length_nil, List.map_cons, List.map_nil, List.take_succ_cons, List.take_zero, List.drop_succ_cons, List.drop_zero, List.drop_nil, List.take_nil, List.cons_append, List.nil_append, List.append_nil, List.set_cons_zero, List.set_cons_succ, List.all_cons, List.all_nil, ↓reduceIte, reduceCtorEq, ge_iff_le, gt_iff_lt, eq_self_iff_true, beq_self_eq_true, beq_iff_eq, bne_iff_ne, ne_eq, ite_not, Int.reduceEq, Option.getD_some, Option.getD_none, ite_self, Nat.reduceAdd, Nat.reduceSub, Nat.reduceMul, Nat.reduceLeDiff, Nat.reduceEqDiff, Nat.reduceBEq, Nat.reduceBNe, Int.reduceLT, Int.reduceLE, Int.reduceAdd, Int.reduceSub, Int.reduceMul, Int.reduceNeg, Int.reduceNe, Int.reduceBEq, Int.reduceBNe, Int.reduceToNat, c1, c2, hw, ha, hbs, hap, ht]
    · cases m with
      | zero => simp at h h'; omega
      | succ m =>
        have ho := or_byte (n % 256).toNat
        rw [e128] at ho
        have hbs := fun K => bsR_byt (n := (n % 128).toNat + 128) (by omega) (K := K)
        have ih := putS_loop (H := H) (v2 := v2) m (n / 128) (acc ++ [UInt8.ofNat ((n % 128).toNat + 128)]) (by
          have : (128 : Int) ^ (m + 1) = 128 ^ m * 128 := Int.pow_succ ..
          omega) (by
          have : (128 : Int) ^ (m + 1) = 128 ^ m * 128 := Int.pow_succ ..
          omega) (by omega) (by omega) (by simp; omega)
        rw [p_leb_PutS_1100_eq, putS, if_neg h1]
        by_cases c1 : n < -64
        · simp (contextual := true) (dsimp := false) (disch := omega) only [↓goDown, goUp, List.length_cons, List.length_nil, List.map_cons, List.map_nil, List.take_succ_cons, List.take_zero, List.drop_succ_cons, List.drop_zero, List.drop_nil, List.take_nil, List.cons_append, List.nil_append, List.append_nil, List.set_cons_zero, List.set_cons_succ, List.all_cons, List.all_nil, ↓reduceIte, reduceCtorEq, ge_iff_le, gt_iff_lt, eq_self_iff_true, beq_self_eq_true, beq_iff_eq, bne_iff_ne, ne_eq, ite_not, Int.reduceEq, Option.getD_some, Option.getD_none, ite_self, Nat.reduceAdd, Nat.reduceSub, Nat.reduceMul, Nat.reduceLeDiff, Nat.reduceEqDiff, Nat.reduceBEq, Nat.reduceBNe, Int.reduceLT, Int.reduceLE, Int.reduceAdd, Int.reduceSub, Int.reduceMul, Int.reduceNeg, Int.reduceNe, Int.reduceBEq, Int.reduceBNe, Int.reduceToNat, c1, hw, ho, shrS, hbs, hap]
          rw [ih]
          simp
        · have c2 : 63 < n := by omega
          simp (contextual := true) (dsimp := false) (disch := omega) only [↓goDown, goUp, List.length_cons, List.length_nil, List.map_cons, List.map_nil, List.take_succ_cons, List.take_zero, List.drop_succ_cons, List.drop_zero, List.drop_nil, List.take_nil, List.cons_append, List.nil_append, List.append_nil, List.set_cons_zero, List.set_cons_succ, List.all_cons, List.all_nil, ↓reduceIte, reduceCtorEq, ge_iff_le, gt_iff_lt, eq_self_iff_true, beq_self_eq_true, beq_iff_eq, bne_iff_ne, ne_eq, ite_not, Int.reduceEq, Option.getD_some, Option.getD_none, ite_self, Nat.reduceAdd, Nat.reduceSub, Nat.reduceMul, Nat.reduceLeDiff, Nat.reduceEqDiff, Nat.reduceBEq, Nat.reduceBNe, Int.reduceLT, Int.reduceLE, Int.reduceAdd, Int.reduceSub, Int.reduceMul, Int.reduceNeg, Int.reduceNe, Int.reduceBEq, Int.reduceBNe, Int.reduceToNat, c1, c2, hw, ho, shrS, hbs, hap]
          rw [ih]
          simp
theorem putS_is {H : Heap} {n : Int} (hn : -9223372036854775808 ≤ n) (hn' : n ≤ 9223372036854775807) : run (C k_leb_PutS [.int .i64 n]) H = some (.ok (accB (putS n)) H) := by
  rw [leb_PutS_eq]
  have h := putS_loop (H := H) (v2 := .slice false true 0 []) 9 n [] (by omega) (by omega) hn hn' (by simp)
  have h : run (p_leb_PutS_1100 (.int .i64 n) (.slice false true 0 []) (.slice false true 0 [])) H = some (.ok (accB (putS n)) H) := h
  have hl : ∀ k, (accB (putS n)).low k = true := fun k => low_acc
  simp (contextual := true) (dsimp := false) (disch := omega) only [↓goDown, goUp, List.length_cons, List.length_nil, List.map_cons, List.map_nil, List.take_succ_cons, List.take_zero, List.drop_succ_cons, List.drop_zero, List.drop_nil, List.take_nil, List.cons_append, List.nil_append, List.append_nil, List.set_cons_zero, List.set_cons_succ, List.all_cons, List.all_nil, ↓reduceIte, reduceCtorEq, ge_iff_le, gt_iff_lt, eq_self_iff_true, beq_self_eq_true, beq_iff_eq, bne_iff_ne, ne_eq, ite_not, Int.reduceEq, Option.getD_some, Option.getD_none, ite_self, Nat.reduceAdd, Nat.reduceSub, Nat.reduceMul, Nat.reduceLeDiff, Nat.reduceEqDiff, Nat.reduceBEq, Nat.reduceBNe, Int.reduceLT, Int.reduceLE, Int.reduceAdd, Int.reduceSub, Int.reduceMul, Int.reduceNeg, Int.reduceNe, Int.reduceBEq, Int.reduceBNe, Int.reduceToNat, h, hl]
end Go.Proofs.Ytofbbijagbpicaa.Pi.Q
namespace Go.Proofs.Ytofbbijagbpicaa.Pi.Q
open Go Go.Proofs.Ytofbbijagbpicaa.Pi
set_option linter.unusedVariables false
set_option linter.unusedSimpArgs false
set_option maxRecDepth 100000
attribute [local congr] ite_congr
inductive Wr where
  | ok (u : List UInt8)
  | err (w : Nat)
theorem pmust_ok {H : Heap} {x : PV} : run (C k_entry_pen_must [x, .bool true]) H = some (.ok (.tup []) H) := by
  rw [entry_pen_must_eq]
  simp (contextual := true) (dsimp := false) (disch := omega) only [↓goDown, goUp, List.length_cons, List.length_nil, List.map_cons, List.map_nil, List.take_succ_cons, List.take_zero, List.drop_succ_cons, List.drop_zero, List.drop_nil, List.take_nil, List.cons_append, List.nil_append, List.append_nil, List.set_cons_zero, List.set_cons_succ, List.all_cons, List.all_nil, ↓reduceIte, reduceCtorEq, ge_iff_le, gt_iff_lt, eq_self_iff_true, beq_self_eq_true, beq_iff_eq, bne_iff_ne, ne_eq, ite_not, Int.reduceEq, Option.getD_some, Option.getD_none, ite_self, Nat.reduceAdd, Nat.reduceSub, Nat.reduceMul, Nat.reduceLeDiff, Nat.reduceEqDiff, Nat.reduceBEq, Nat.reduceBNe, Int.reduceLT, Int.reduceLE, Int.reduceAdd, Int.reduceSub, Int.reduceMul, Int.reduceNeg, Int.reduceNe, Int.reduceBEq, Int.reduceBNe, Int.reduceToNat, un_not]
theorem pmust_no {H : Heap} {x : PV} : run (C k_entry_pen_must [x, .bool false]) H = some (.pan (flt 0 4) H) := by
  rw [entry_pen_must_eq]
  simp (contextual := true) (dsimp := false) (disch := omega) only [↓goDown, goUp, List.length_cons, List.length_nil, List.map_cons, List.map_nil, List.take_succ_cons, List.take_zero, List.drop_succ_cons, List.drop_zero, List.drop_nil, List.take_nil, List.cons_append, List.nil_append, List.append_nil, List.set_cons_zero, List.set_cons_succ, List.all_cons, List.all_nil, ↓reduceIte, reduceCtorEq, ge_iff_le, gt_iff_lt, eq_self_iff_true, beq_self_eq_true, beq_iff_eq, bne_iff_ne, ne_eq, ite_not, Int.reduceEq, Option.getD_some, Option.getD_none, ite_self, Nat.reduceAdd, Nat.reduceSub, Nat.reduceMul, Nat.reduceLeDiff, Nat.reduceEqDiff, Nat.reduceBEq, Nat.reduceBNe, Int.reduceLT, Int.reduceLE, Int.reduceAdd, Int.reduceSub, Int.reduceMul, Int.reduceNeg, Int.reduceNe, Int.reduceBEq, Int.reduceBNe, Int.reduceToNat, un_not]
  rfl
theorem fits_is {H : Heap} {n : Int} : run (C k_entry_fits [.int .i64 n]) H = some (.ok (.bool (decide (0 ≤ n ∧ n ≤ 2147483647))) H) := by
  rw [entry_fits_eq]
  by_cases h1 : 0 ≤ n
  · by_cases h2 : n ≤ 2147483647
    · have e : decide (0 ≤ n ∧ n ≤ 2147483647) = true := decide_eq_true ⟨h1, h2⟩
      rw [e]
      simp (contextual := true) (dsimp := false) (disch := omega) only [↓goDown, goUp, List.length_cons, List.length_nil, List.map_cons, List.map_nil, List.take_succ_cons, List.take_zero, List.drop_succ_cons, List.drop_zero, List.drop_nil, List.take_nil, List.cons_append, List.nil_append, List.append_nil, List.set_cons_zero, List.set_cons_succ, List.all_cons, List.all_nil, ↓reduceIte, reduceCtorEq, ge_iff_le, gt_iff_lt, eq_self_iff_true, beq_self_eq_true, beq_iff_eq, bne_iff_ne, ne_eq, ite_not, Int.reduceEq, Option.getD_some, Option.getD_none, ite_self, Nat.reduceAdd, Nat.reduceSub, Nat.reduceMul, Nat.reduceLeDiff, Nat.reduceEqDiff, Nat.reduceBEq, Nat.reduceBNe, Int.reduceLT, Int.reduceLE, Int.reduceAdd, Int.reduceSub, Int.reduceMul, Int.reduceNeg, Int.reduceNe, Int.reduceBEq, Int.reduceBNe, Int.reduceToNat, h1, h2]
    · have e : decide (0 ≤ n ∧ n ≤ 2147483647) = false := decide_eq_false (fun h => h2 h.2)
      rw [e]
      simp (contextual := true) (dsimp := false) (disch := omega) only [↓goDown, goUp, List.length_cons, List.length_nil, List.map_cons, List.map_nil, List.take_succ_cons, List.take_zero, List.drop_succ_cons, List.drop_zero, List.drop_nil, List.take_nil, List.cons_append, List.nil_append, List.append_nil, List.set_cons_zero, List.set_cons_succ, List.all_cons, List.all_nil, ↓reduceIte, reduceCtorEq, ge_iff_le, gt_iff_lt, eq_self_iff_true, beq_self_eq_true, beq_iff_eq, bne_iff_ne, ne_eq, ite_not, Int.reduceEq, Option.getD_some, Option.getD_none, ite_self, Nat.reduceAdd, Nat.reduceSub, Nat.reduceMul, Nat.reduceLeDiff, Nat.reduceEqDiff, Nat.reduceBEq, Nat.reduceBNe, Int.reduceLT, Int.reduceLE, Int.reduceAdd, Int.reduceSub, Int.reduceMul, Int.reduceNeg, Int.reduceNe, Int.reduceBEq, Int.reduceBNe, Int.reduceToNat, h1, h2]
  · have e : decide (0 ≤ n ∧ n ≤ 2147483647) = false := decide_eq_false (fun h => h1 h.1)
    rw [e]
    simp (contextual := true) (dsimp := false) (disch := omega) only [↓goDown, goUp, List.length_cons, List.length_nil, List.map_cons, List.map_nil, List.take_succ_cons, List.take_zero, List.drop_succ_cons, List.drop_zero, List.drop_nil, List.take_nil, List.cons_append, List.nil_append, List.append_nil, List.set_cons_zero, List.set_cons_succ, List.all_cons, List.all_nil, ↓reduceIte, reduceCtorEq, ge_iff_le, gt_iff_lt, eq_self_iff_true, beq_self_eq_true, beq_iff_eq, bne_iff_ne, ne_eq, ite_not, Int.reduceEq, Option.getD_some, Option.getD_none, ite_self, Nat.reduceAdd, Nat.reduceSub, Nat.reduceMul, Nat.reduceLeDiff, Nat.reduceEqDiff, Nat.reduceBEq, Nat.reduceBNe, Int.reduceLT, Int.reduceLE, Int.reduceAdd, Int.reduceSub, Int.reduceMul, Int.reduceNeg, Int.reduceNe, Int.reduceBEq, Int.reduceBNe, Int.reduceToNat, h1]
def wIndex (n : Int) : Wr := if 0 ≤ n ∧ n ≤ 2147483647 then .ok (putU n.toNat) else .err 4
def find (h : Int) : List Int → Nat → Option Nat
  | [], _ => none
  | a :: r, i => if a = h then some i else find h r (i + 1)
def absI : List Int := [-11, -9, -8, -7, -6, -5, -3, -1, -10, -4, -2, -12]
def wNamed : Option Nat → Wr
  | some j => .ok [UInt8.ofNat (105 + j)]
  | none => .err 4
def wHeap (h : Int) : Wr :=
  if 0 ≤ h then if h ≤ 2147483647 then .ok (putS h) else .err 4 else wNamed (find h absI 0)
theorem putS_len : ∀ (m : Nat) (n : Int), -(64 * 128 ^ m) ≤ n → n < 64 * 128 ^ m → (putS n).length ≤ m + 1
  | m, n, h, h' => by
    rw [putS]
    split
    · simp
    · cases m with
      | zero => simp at h h'; omega
      | succ m =>
        have e : (128 : Int) ^ (m + 1) = 128 ^ m * 128 := Int.pow_succ ..
        have := putS_len m (n / 128) (by omega) (by omega)
        simp only [List.length_cons]
        omega
theorem heap_step {H : Heap} {c : Nat} {h a : Int} {cs : List PV} {i : Nat} (hi : i < 12) (ha : nth cs i = some (.int .i64 a)) :
    run (p_entry_pen_heap_1010 (.ptr c 0) (.int .i64 h) (.agg cs) (.int .i64 i)) H =
      if a = h then run (M.bind (C k_entry_pen_byte [.ptr c 0, .int .u8 ((105 + i : Nat) : Int)]) fun _ => M.pure (.tup [])) H
      else run (p_entry_pen_heap_1010 (.ptr c 0) (.int .i64 h) (.agg cs) (.int .i64 ((i + 1 : Nat) : Int))) H := by
  have c1 : (i : Int) < 12 := by omega
  have hx : run (ixA 12 1 none (.agg cs) (.int .i64 i)) H = some (.ok (.int .i64 a) H) := by
    rw [run_ixA, if_pos ⟨by omega, by omega⟩, Int.toNat_natCast, ha]
    rfl
  have e1 : (105 : Int) + i = ((105 + i : Nat) : Int) := by omega
  have e2 : (i : Int) + 1 = ((i + 1 : Nat) : Int) := rfl
  rw [p_entry_pen_heap_1010_eq]
  by_cases hc : a = h
  · rw [if_pos hc]
    have c2 : (a = h) = True := eq_true hc
    simp (contextual := true) (dsimp := false) (disch := omega) only [↓goDown, goUp, List.length_cons, List.length_nil, List.map_cons, List.map_nil, List.take_succ_cons, List.take_zero, List.drop_succ_cons, List.drop_zero, List.drop_nil, List.take_nil, List.cons_append, List.nil_append, List.append_nil, List.set_cons_zero, List.set_cons_succ, List.all_cons, List.all_nil, ↓reduceIte, reduceCtorEq, ge_iff_le, gt_iff_lt, eq_self_iff_true, beq_self_eq_true, beq_iff_eq, bne_iff_ne, ne_eq, ite_not, Int.reduceEq, Option.getD_some, Option.getD_none, ite_self, Nat.reduceAdd, Nat.reduceSub, Nat.reduceMul, Nat.reduceLeDiff, Nat.reduceEqDiff, Nat.reduceBEq, Nat.reduceBNe, Int.reduceLT, Int.reduceLE, Int.reduceAdd, Int.reduceSub, Int.reduceMul, Int.reduceNeg, Int.reduceNe, Int.reduceBEq, Int.reduceBNe, Int.reduceToNat, c1, hx, c2, e1]
  · rw [if_neg hc]
    have c2 : (a = h) = False := eq_false hc
    simp (contextual := true) (dsimp := false) (disch := omega) only [↓goDown, goUp, List.length_cons, List.length_nil, List.map_cons, List.map_nil, List.take_succ_cons, List.take_zero, List.drop_succ_cons, List.drop_zero, List.drop_nil, List.take_nil, List.cons_append, List.nil_append, List.append_nil, List.set_cons_zero, List.set_cons_succ, List.all_cons, List.all_nil, ↓reduceIte, reduceCtorEq, ge_iff_le, gt_iff_lt, eq_self_iff_true, beq_self_eq_true, beq_iff_eq, bne_iff_ne, ne_eq, ite_not, Int.reduceEq, Option.getD_some, Option.getD_none, ite_self, Nat.reduceAdd, Nat.reduceSub, Nat.reduceMul, Nat.reduceLeDiff, Nat.reduceEqDiff, Nat.reduceBEq, Nat.reduceBNe, Int.reduceLT, Int.reduceLE, Int.reduceAdd, Int.reduceSub, Int.reduceMul, Int.reduceNeg, Int.reduceNe, Int.reduceBEq, Int.reduceBNe, Int.reduceToNat, c1, hx, c2, e2]
end Go.Proofs.Ytofbbijagbpicaa.Pi.Q
namespace Go.Proofs.Ytofbbijagbpicaa.Pi.Q
open Go Go.Proofs.Ytofbbijagbpicaa.Pi
set_option linter.unusedVariables false
set_option linter.unusedSimpArgs false
set_option maxRecDepth 100000
attribute [local congr] ite_congr
def wCat (u : List UInt8) : Wr → Wr
  | .ok v => .ok (u ++ v)
  | .err w => .err w
def wVal (v : VT) : Wr :=
  if v.num = 5 then wCat (if v.nul = false then [100] else if 0 ≤ v.heap then [99] else []) (wHeap v.heap)
  else if 1 ≤ v.num ∧ v.num ≤ 4 ∧ v.nul = false ∧ v.heap = 0 then .ok [UInt8.ofNat (128 - v.num).toNat] else .err 4
end Go.Proofs.Ytofbbijagbpicaa.Pi.Q
namespace Go.Proofs.Ytofbbijagbpicaa.Pi.Q
open Go Go.Proofs.Ytofbbijagbpicaa.Pi
set_option linter.unusedVariables false
set_option linter.unusedSimpArgs false
set_option maxRecDepth 100000
attribute [local congr] ite_congr
def wField (v : FT) : Wr :=
  if v.ty = ⟨6, false, 0⟩ then .ok [120, if v.mu then 1 else 0] else if v.ty = ⟨7, false, 0⟩ then .ok [119, if v.mu then 1 else 0]
  else match wVal v.ty with
    | .ok u => .ok (u ++ [if v.mu then 1 else 0])
    | .err w => .err w
theorem eql_V {H : Heap} {v : VT} {n : Int} : run (bi .eql (.struct [.int, .bool, .int]) (.agg [.int .i64 v.num, .bool v.nul, .int .i64 v.heap]) (.agg [.int .i64 n, .bool false, .int .i64 0])) H = some (.ok (.bool (decide (v = ⟨n, false, 0⟩))) H) := by
  obtain ⟨a, t, h⟩ := v
  have e : decide ((⟨a, t, h⟩ : VT) = ⟨n, false, 0⟩) = (a == n && (t == false && h == 0)) := by
    rw [Bool.eq_iff_iff]
    simp
  rw [e]
  unfold run bi
  cases hb1 : (a == n) <;> cases hb2 : (h == 0) <;> cases t <;> simp only [eqPV, eqCells, eqScalar, M.pure, hb1, hb2] <;> rfl
end Go.Proofs.Ytofbbijagbpicaa.Pi.Q
namespace Go.Proofs.Ytofbbijagbpicaa.Pi.Q
open Go Go.Proofs.Ytofbbijagbpicaa.Pi
set_option linter.unusedVariables false
set_option linter.unusedSimpArgs false
set_option maxRecDepth 100000
attribute [local congr] ite_congr
def wThen : Wr → Wr → Wr
  | .ok u, r => wCat u r
  | .err w, _ => .err w
def wAll {α : Type} (w : α → Wr) : List α → Wr
  | [] => .ok []
  | x :: r => wThen (w x) (wAll w r)
def wEach {α : Type} (most : Nat) (w : α → Wr) (l : List α) : Wr := if most < l.length then .err 2 else wCat (putU l.length) (wAll w l)
end Go.Proofs.Ytofbbijagbpicaa.Pi.Q
namespace Go.Proofs.Ytofbbijagbpicaa.Pi.Q
open Go Go.Proofs.Ytofbbijagbpicaa.Pi
set_option linter.unusedVariables false
set_option linter.unusedSimpArgs false
set_option maxRecDepth 100000
attribute [local congr] ite_congr
abbrev KR := Res (List UInt8) Unit
def encU (_ : Unit) : PV := .tup []
theorem encU_is {u : Unit} : encU u = .tup [] := nrfl rfl
abbrev pB (acc : List UInt8) : Box := .cells [accB acc]
theorem isCell_B {a : List UInt8} : isCell (accB a) = true := isCell_acc
theorem cells_B {a : List UInt8} : (accB a).cells = [accB a] := cells_acc
theorem low_B {a : List UInt8} {k : Nat} : (accB a).low k = true := low_acc
theorem isTup_B {a : List UInt8} : isTup (accB a) = false := isTup_acc
def kPut (u acc : List UInt8) : KR := if acc.length + u.length ≤ 140737488355328 then .ok () (acc ++ u) else .no
def kMust (b : Bool) (acc : List UInt8) : KR := if b = true then .ok () acc else .err y_entry_fault [0, 4]
theorem ap_X {acc u : List UInt8} {K : Heap} : run (ap true 1 1 (accB acc) (accB u)) K = if acc.length + u.length ≤ 140737488355328 then some (.ok (accB (acc ++ u)) K) else none := by
  cases acc with
  | nil => cases u with
    | nil => rfl
    | cons x r =>
      unfold accB accP run ap tail growB
      simp only [bytes, List.map_cons, List.map_nil, List.nil_append, List.length_nil, Nat.zero_add, beq_self_eq_true, Bool.or_true, cond_true, List.isEmpty_cons, cond_false, List.length_cons, List.length_map, Nat.mul_one, Nat.max_self]
      by_cases h : r.length + 1 ≤ 140737488355328
      · rw [decide_eq_true h, if_pos h]; rfl
      · rw [decide_eq_false h, if_neg h]; rfl
  | cons y a =>
    have key : (bytes (y :: a)).length + (bytes u).length = (y :: a).length + u.length := by simp [bytes]
    cases u with
    | nil =>
      unfold accB accP run ap tail growB
      simp only [bytes, List.map_cons, List.map_nil, List.append_nil, List.length_nil, Nat.add_zero, beq_self_eq_true, Bool.or_true, Bool.true_or, cond_true, cond_false, List.length_cons, List.length_map, Nat.mul_one, Nat.max_self, Bool.true_and]
      by_cases h : a.length + 1 ≤ 140737488355328
      · rw [decide_eq_true h, if_pos h]; rfl
      · rw [decide_eq_false h, if_neg h]; rfl
    | cons x r =>
      unfold accB accP run ap tail growB
      simp only [bytes, List.map_cons, List.map_nil, List.length_cons, List.length_map, beq_self_eq_true, Bool.or_true, cond_true, cond_false, Nat.mul_one, Nat.max_self, Bool.true_and]
      by_cases h : a.length + 1 + (r.length + 1) ≤ 140737488355328
      · rw [decide_eq_true h, if_pos h]
        simp only [cond_true, List.cons_append, List.map_cons, List.map_append]
        rfl
      · rw [decide_eq_false h, if_neg h]; rfl
theorem ap_X1 {acc : List UInt8} {c : UInt8} {K : Heap} : run (ap true 1 1 (accB acc) (.slice true false 1 [byt c])) K = if acc.length + 1 ≤ 140737488355328 then some (.ok (accB (acc ++ [c])) K) else none := ap_X (u := [c])
variable {c : Nat} {H : Heap} {L : List Box} {acc : List UInt8}
theorem mustK {b : Bool} (hc : c < List.length H) : runK c (C k_entry_pen_must [.ptr c 0, .bool b]) (St H c (pB acc) L) = outK c H L pB encU (kMust b acc) := by
  cases b with
  | true => rw [toK, pmust_ok]; rfl
  | false =>
    rw [toK, pmust_no]
    show some (Out.pan _ (hset (St H c (pB acc) L) c .dead)) = some (Out.pan _ (St H c .dead L))
    rw [set_St hc]; rfl
theorem byteK {n : Int} (h0 : 0 ≤ n) (h1 : n < 256) (hc : c < List.length H) : runK c (C k_entry_pen_byte [.ptr c 0, .int .u8 n]) (St H c (pB acc) L) = outK c H L pB encU (kPut [UInt8.ofNat n.toNat] acc) := liftK (fun H hc => by
  obtain ⟨n, rfl⟩ := Int.eq_ofNat_of_zero_le h0
  have hbs := fun K => bsR_byt (n := n) (by omega) (K := K)
  rw [entry_pen_byte_eq, Int.toNat_natCast]
  unfold kPut
  simp (contextual := true) (dsimp := false) (disch := omega) only [↓kDown, kUp, ↓goDown, goUp, List.length_cons, List.length_nil, List.map_cons, List.map_nil, List.take_succ_cons, List.take_zero, List.drop_succ_cons, List.drop_zero, List.drop_nil, List.take_nil, List.cons_append, List.nil_append, List.append_nil, List.set_cons_zero, List.set_cons_succ, List.all_cons, List.all_nil, ↓reduceIte, reduceCtorEq, ge_iff_le, gt_iff_lt, eq_self_iff_true, beq_self_eq_true, beq_iff_eq, bne_iff_ne, ne_eq, ite_not, Int.reduceEq, Option.getD_some, Option.getD_none, ite_self, Nat.reduceAdd, Nat.reduceSub, Nat.reduceMul, Nat.reduceLeDiff, Nat.reduceEqDiff, Nat.reduceBEq, Nat.reduceBNe, Int.reduceLT, Int.reduceLE, Int.reduceAdd, Int.reduceSub, Int.reduceMul, Int.reduceNeg, Int.reduceNe, Int.reduceBEq, Int.reduceBNe, Int.reduceToNat, hbs, ap_X1, isCell_B, cells_B, low_B, encU_is]) hc
theorem uK {n : Int} (h0 : 0 ≤ n) (h1 : n < 18446744073709551616) (hc : c < List.length H) : runK c (C k_entry_pen_u [.ptr c 0, .int .u64 n]) (St H c (pB acc) L) = outK c H L pB encU (kPut (putU n.toNat) acc) := liftK (fun H hc => by
  obtain ⟨n, rfl⟩ := Int.eq_ofNat_of_zero_le h0
  have hp := fun K => putU_is (H := K) (n := n) (by omega)
  rw [entry_pen_u_eq, Int.toNat_natCast]
  unfold kPut
  simp (contextual := true) (dsimp := false) (disch := omega) only [↓kDown, kUp, ↓goDown, goUp, List.length_cons, List.length_nil, List.map_cons, List.map_nil, List.take_succ_cons, List.take_zero, List.drop_succ_cons, List.drop_zero, List.drop_nil, List.take_nil, List.cons_append, List.nil_append, List.append_nil, List.set_cons_zero, List.set_cons_succ, List.all_cons, List.all_nil, ↓reduceIte, reduceCtorEq, ge_iff_le, gt_iff_lt, eq_self_iff_true, beq_self_eq_true, beq_iff_eq, bne_iff_ne, ne_eq, ite_not, Int.reduceEq, Option.getD_some, Option.getD_none, ite_self, Nat.reduceAdd, Nat.reduceSub, Nat.reduceMul, Nat.reduceLeDiff, Nat.reduceEqDiff, Nat.reduceBEq, Nat.reduceBNe, Int.reduceLT, Int.reduceLE, Int.reduceAdd, Int.reduceSub, Int.reduceMul, Int.reduceNeg, Int.reduceNe, Int.reduceBEq, Int.reduceBNe, Int.reduceToNat, toK (m := C k_leb_PutU [.int .u64 (n : Int)]), hp, ap_X, isCell_B, cells_B, low_B, encU_is]) hc
theorem flagK {b : Bool} (hc : c < List.length H) : runK c (C k_entry_pen_flag [.ptr c 0, .bool b]) (St H c (pB acc) L) = outK c H L pB encU (kPut [if b then 1 else 0] acc) := liftK (fun H hc => by
  rw [entry_pen_flag_eq]
  have h1 := fun L acc => byteK (c := c) (H := H) (L := L) (acc := acc) (n := 1) (by omega) (by omega) hc
  have h0 := fun L acc => byteK (c := c) (H := H) (L := L) (acc := acc) (n := 0) (by omega) (by omega) hc
  cases b <;> simp (contextual := true) (dsimp := false) (disch := omega) only [↓kDown, kUp, ↓goDown, goUp, List.length_cons, List.length_nil, List.map_cons, List.map_nil, List.take_succ_cons, List.take_zero, List.drop_succ_cons, List.drop_zero, List.drop_nil, List.take_nil, List.cons_append, List.nil_append, List.append_nil, List.set_cons_zero, List.set_cons_succ, List.all_cons, List.all_nil, ↓reduceIte, reduceCtorEq, ge_iff_le, gt_iff_lt, eq_self_iff_true, beq_self_eq_true, beq_iff_eq, bne_iff_ne, ne_eq, ite_not, Int.reduceEq, Option.getD_some, Option.getD_none, ite_self, Nat.reduceAdd, Nat.reduceSub, Nat.reduceMul, Nat.reduceLeDiff, Nat.reduceEqDiff, Nat.reduceBEq, Nat.reduceBNe, Int.reduceLT, Int.reduceLE, Int.reduceAdd, Int.reduceSub, Int.reduceMul, Int.reduceNeg, Int.reduceNe, Int.reduceBEq, Int.reduceBNe, Int.reduceToNat, h1, h0, encU_is] <;> rfl) hc
def kIndex (n : Int) (acc : List UInt8) : KR := if 0 ≤ n ∧ n ≤ 2147483647 then kPut (putU n.toNat) acc else .err y_entry_fault [0, 4]
theorem indexK {n : Int} (hc : c < List.length H) : runK c (C k_entry_pen_index [.ptr c 0, .int .i64 n]) (St H c (pB acc) L) = outK c H L pB encU (kIndex n acc) := liftK (fun H hc => by
  rw [entry_pen_index_eq]
  unfold kIndex
  simp (contextual := true) (dsimp := false) (disch := omega) only [↓kDown, kUp, ↓goDown, goUp, List.length_cons, List.length_nil, List.map_cons, List.map_nil, List.take_succ_cons, List.take_zero, List.drop_succ_cons, List.drop_zero, List.drop_nil, List.take_nil, List.cons_append, List.nil_append, List.append_nil, List.set_cons_zero, List.set_cons_succ, List.all_cons, List.all_nil, ↓reduceIte, reduceCtorEq, ge_iff_le, gt_iff_lt, eq_self_iff_true, beq_self_eq_true, beq_iff_eq, bne_iff_ne, ne_eq, ite_not, Int.reduceEq, Option.getD_some, Option.getD_none, ite_self, Nat.reduceAdd, Nat.reduceSub, Nat.reduceMul, Nat.reduceLeDiff, Nat.reduceEqDiff, Nat.reduceBEq, Nat.reduceBNe, Int.reduceLT, Int.reduceLE, Int.reduceAdd, Int.reduceSub, Int.reduceMul, Int.reduceNeg, Int.reduceNe, Int.reduceBEq, Int.reduceBNe, Int.reduceToNat, toK (m := C k_entry_fits [.int .i64 n]), fits_is, mustK, kMust, uK, encU_is]) hc
def kNamed : Option Nat → List UInt8 → KR
  | some j, acc => kPut [UInt8.ofNat (105 + j)] acc
  | none, _ => .err y_entry_fault [0, 4]
def kHeap (h : Int) (acc : List UInt8) : KR :=
  if 0 ≤ h then if h ≤ 2147483647 then kPut (putS h) acc else .err y_entry_fault [0, 4] else kNamed (find h absI 0) acc
theorem heapK_step {h a : Int} {cs : List PV} {i : Nat} (hi : i < 12) (ha : nth cs i = some (.int .i64 a)) (hc : c < List.length H) :
    runK c (p_entry_pen_heap_1010 (.ptr c 0) (.int .i64 h) (.agg cs) (.int .i64 i)) (St H c (pB acc) []) =
      if a = h then outK c H [] pB encU (kPut [UInt8.ofNat (105 + i)] acc)
      else runK c (p_entry_pen_heap_1010 (.ptr c 0) (.int .i64 h) (.agg cs) (.int .i64 ((i + 1 : Nat) : Int))) (St H c (pB acc) []) := by
  unfold runK
  rw [heap_step hi ha]
  by_cases hc2 : a = h
  · rw [if_pos hc2, if_pos hc2]
    have hb := byteK (c := c) (H := H) (L := []) (acc := acc) (n := ((105 + i : Nat) : Int)) (by omega) (by omega) hc
    rw [Int.toNat_natCast] at hb
    show runK c _ _ = _
    simp (contextual := true) (dsimp := false) (disch := omega) only [↓kDown, kUp, ↓goDown, goUp, List.length_cons, List.length_nil, List.map_cons, List.map_nil, List.take_succ_cons, List.take_zero, List.drop_succ_cons, List.drop_zero, List.drop_nil, List.take_nil, List.cons_append, List.nil_append, List.append_nil, List.set_cons_zero, List.set_cons_succ, List.all_cons, List.all_nil, ↓reduceIte, reduceCtorEq, ge_iff_le, gt_iff_lt, eq_self_iff_true, beq_self_eq_true, beq_iff_eq, bne_iff_ne, ne_eq, ite_not, Int.reduceEq, Option.getD_some, Option.getD_none, ite_self, Nat.reduceAdd, Nat.reduceSub, Nat.reduceMul, Nat.reduceLeDiff, Nat.reduceEqDiff, Nat.reduceBEq, Nat.reduceBNe, Int.reduceLT, Int.reduceLE, Int.reduceAdd, Int.reduceSub, Int.reduceMul, Int.reduceNeg, Int.reduceNe, Int.reduceBEq, Int.reduceBNe, Int.reduceToNat, hb, encU_is]
  · rw [if_neg hc2, if_neg hc2]
theorem heapK_loop {h : Int} {cs : List PV} (hc : c < List.length H) : ∀ (l : List Int) (i : Nat), (∀ k (a : Int), l[k]? = some a → nth cs (i + k) = some (.int .i64 a)) → i + l.length = 12 →
    runK c (p_entry_pen_heap_1010 (.ptr c 0) (.int .i64 h) (.agg cs) (.int .i64 i)) (St H c (pB acc) []) = outK c H [] pB encU (kNamed (find h l i) acc)
  | [], i, hcs, hi => by
    have c1 : ¬ (i : Int) < 12 := by simp at hi; omega
    rw [p_entry_pen_heap_1010_eq]
    simp only [find, kNamed]
    simp (contextual := true) (dsimp := false) (disch := omega) only [↓kDown, kUp, ↓goDown, goUp, List.length_cons, List.length_nil, List.map_cons, List.map_nil, List.take_succ_cons, List.take_zero, List.drop_succ_cons, List.drop_zero, List.drop_nil, List.take_nil, List.cons_append, List.nil_append, List.append_nil, List.set_cons_zero, List.set_cons_succ, List.all_cons, List.all_nil, ↓reduceIte, reduceCtorEq, ge_iff_le, gt_iff_lt, eq_self_iff_true, beq_self_eq_true, beq_iff_eq, bne_iff_ne, ne_eq, ite_not, Int.reduceEq, Option.getD_some, Option.getD_none, ite_self, Nat.reduceAdd, Nat.reduceSub, Nat.reduceMul, Nat.reduceLeDiff, Nat.reduceEqDiff, Nat.reduceBEq, Nat.reduceBNe, Int.reduceLT, Int.reduceLE, Int.reduceAdd, Int.reduceSub, Int.reduceMul, Int.reduceNeg, Int.reduceNe, Int.reduceBEq, Int.reduceBNe, Int.reduceToNat, c1, mustK, kMust]
  | a :: r, i, hcs, hi => by
    have hi12 : i < 12 := by simp at hi; omega
    rw [heapK_step hi12 (by simpa using hcs 0 a rfl) hc]
    unfold find
    by_cases hc2 : a = h
    · rw [if_pos hc2, if_pos hc2]; rfl
    · rw [if_neg hc2, if_neg hc2]
      exact heapK_loop hc r (i + 1) (fun k b hb => by
        have := hcs (k + 1) b (by simpa using hb)
        rwa [show i + (k + 1) = i + 1 + k by omega] at this) (by simp at hi; omega)
theorem heapK {h : Int} (hc : c < List.length H) : runK c (C k_entry_pen_heap [.ptr c 0, .int .i64 h]) (St H c (pB acc) L) = outK c H L pB encU (kHeap h acc) := liftK (fun H hc => by
  have hlp : runK c (p_entry_pen_heap_1010 (.ptr c 0) (.int .i64 h) (.agg [.int .i64 (-11), .int .i64 (-9), .int .i64 (-8), .int .i64 (-7), .int .i64 (-6), .int .i64 (-5), .int .i64 (-3), .int .i64 (-1), .int .i64 (-10), .int .i64 (-4), .int .i64 (-2), .int .i64 (-12)]) (.int .i64 0)) (St H c (pB acc) []) = _ := heapK_loop (acc := acc) (h := h) (cs := [.int .i64 (-11), .int .i64 (-9), .int .i64 (-8), .int .i64 (-7), .int .i64 (-6), .int .i64 (-5), .int .i64 (-3), .int .i64 (-1), .int .i64 (-10), .int .i64 (-4), .int .i64 (-2), .int .i64 (-12)]) hc absI 0 (fun k a hk => by
      have hk12 : k < 12 := by have := (List.getElem?_eq_some_iff.mp hk).1; simpa [absI] using this
      have : k = 0 ∨ k = 1 ∨ k = 2 ∨ k = 3 ∨ k = 4 ∨ k = 5 ∨ k = 6 ∨ k = 7 ∨ k = 8 ∨ k = 9 ∨ k = 10 ∨ k = 11 := by omega
      rcases this with rfl | rfl | rfl | rfl | rfl | rfl | rfl | rfl | rfl | rfl | rfl | rfl <;> (simp [absI] at hk; subst hk; rfl)) rfl
  rw [entry_pen_heap_eq]
  unfold kHeap
  by_cases h0 : 0 ≤ h
  · have hp := fun (h1 : h ≤ 2147483647) K => putS_is (H := K) (n := h) (by omega) (by omega)
    unfold kPut
    simp (contextual := true) (dsimp := false) (disch := omega) only [↓kDown, kUp, ↓goDown, goUp, List.length_cons, List.length_nil, List.map_cons, List.map_nil, List.take_succ_cons, List.take_zero, List.drop_succ_cons, List.drop_zero, List.drop_nil, List.take_nil, List.cons_append, List.nil_append, List.append_nil, List.set_cons_zero, List.set_cons_succ, List.all_cons, List.all_nil, ↓reduceIte, reduceCtorEq, ge_iff_le, gt_iff_lt, eq_self_iff_true, beq_self_eq_true, beq_iff_eq, bne_iff_ne, ne_eq, ite_not, Int.reduceEq, Option.getD_some, Option.getD_none, ite_self, Nat.reduceAdd, Nat.reduceSub, Nat.reduceMul, Nat.reduceLeDiff, Nat.reduceEqDiff, Nat.reduceBEq, Nat.reduceBNe, Int.reduceLT, Int.reduceLE, Int.reduceAdd, Int.reduceSub, Int.reduceMul, Int.reduceNeg, Int.reduceNe, Int.reduceBEq, Int.reduceBNe, Int.reduceToNat, h0, toK (m := C k_entry_fits [.int .i64 h]), fits_is, mustK, kMust, toK (m := C k_leb_PutS [.int .i64 h]), hp, ap_X, isCell_B, cells_B, low_B, encU_is]
  · simp (contextual := true) (dsimp := false) (disch := omega) only [↓kDown, kUp, ↓goDown, goUp, List.length_cons, List.length_nil, List.map_cons, List.map_nil, List.take_succ_cons, List.take_zero, List.drop_succ_cons, List.drop_zero, List.drop_nil, List.take_nil, List.cons_append, List.nil_append, List.append_nil, List.set_cons_zero, List.set_cons_succ, List.all_cons, List.all_nil, ↓reduceIte, reduceCtorEq, ge_iff_le, gt_iff_lt, eq_self_iff_true, beq_self_eq_true, beq_iff_eq, bne_iff_ne, ne_eq, ite_not, Int.reduceEq, Option.getD_some, Option.getD_none, ite_self, Nat.reduceAdd, Nat.reduceSub, Nat.reduceMul, Nat.reduceLeDiff, Nat.reduceEqDiff, Nat.reduceBEq, Nat.reduceBNe, Int.reduceLT, Int.reduceLE, Int.reduceAdd, Int.reduceSub, Int.reduceMul, Int.reduceNeg, Int.reduceNe, Int.reduceBEq, Int.reduceBNe, Int.reduceToNat, h0, toK (m := C k_entry_abstract []), abstract_is, hlp]) hc
def kVal (v : VT) (acc : List UInt8) : KR :=
  if v.num = 5 then (if v.nul = false then kPut [100] acc else if 0 ≤ v.heap then kPut [99] acc else .ok () acc).bind fun _ acc => kHeap v.heap acc
  else if 1 ≤ v.num ∧ v.num ≤ 4 ∧ v.nul = false ∧ v.heap = 0 then kPut [UInt8.ofNat (128 - v.num).toNat] acc else .err y_entry_fault [0, 4]
theorem valK {v : VT} (hc : c < List.length H) : runK c (C k_entry_pen_val [.ptr c 0, .agg [.int .i64 v.num, .bool v.nul, .int .i64 v.heap]]) (St H c (pB acc) L) = outK c H L pB encU (kVal v acc) := liftK (fun H hc => by
  have h1 := fun L acc => byteK (c := c) (H := H) (L := L) (acc := acc) (n := 100) (by omega) (by omega) hc
  have h0 := fun L acc => byteK (c := c) (H := H) (L := L) (acc := acc) (n := 99) (by omega) (by omega) hc
  have h2 := fun L acc h0 h1 => byteK (c := c) (H := H) (L := L) (acc := acc) (n := 128 - v.num) h0 h1 hc
  rw [entry_pen_val_eq]
  unfold kVal
  by_cases h5 : v.num = 5
  · cases v.nul <;> simp (contextual := true) (dsimp := false) (disch := omega) only [↓kDown, kUp, ↓goDown, goUp, List.length_cons, List.length_nil, List.map_cons, List.map_nil, List.take_succ_cons, List.take_zero, List.drop_succ_cons, List.drop_zero, List.drop_nil, List.take_nil, List.cons_append, List.nil_append, List.append_nil, List.set_cons_zero, List.set_cons_succ, List.all_cons, List.all_nil, ↓reduceIte, reduceCtorEq, ge_iff_le, gt_iff_lt, eq_self_iff_true, beq_self_eq_true, beq_iff_eq, bne_iff_ne, ne_eq, ite_not, Int.reduceEq, Option.getD_some, Option.getD_none, ite_self, Nat.reduceAdd, Nat.reduceSub, Nat.reduceMul, Nat.reduceLeDiff, Nat.reduceEqDiff, Nat.reduceBEq, Nat.reduceBNe, Int.reduceLT, Int.reduceLE, Int.reduceAdd, Int.reduceSub, Int.reduceMul, Int.reduceNeg, Int.reduceNe, Int.reduceBEq, Int.reduceBNe, Int.reduceToNat, h5, un_not, h1, h0, heapK, p_entry_pen_val_111_eq, encU_is] <;> rfl
  · by_cases a1 : 1 ≤ v.num
    · by_cases a2 : v.num ≤ 4
      · cases v.nul <;> simp (contextual := true) (dsimp := false) (disch := omega) only [↓kDown, kUp, ↓goDown, goUp, List.length_cons, List.length_nil, List.map_cons, List.map_nil, List.take_succ_cons, List.take_zero, List.drop_succ_cons, List.drop_zero, List.drop_nil, List.take_nil, List.cons_append, List.nil_append, List.append_nil, List.set_cons_zero, List.set_cons_succ, List.all_cons, List.all_nil, ↓reduceIte, reduceCtorEq, ge_iff_le, gt_iff_lt, eq_self_iff_true, beq_self_eq_true, beq_iff_eq, bne_iff_ne, ne_eq, ite_not, Int.reduceEq, Option.getD_some, Option.getD_none, ite_self, Nat.reduceAdd, Nat.reduceSub, Nat.reduceMul, Nat.reduceLeDiff, Nat.reduceEqDiff, Nat.reduceBEq, Nat.reduceBNe, Int.reduceLT, Int.reduceLE, Int.reduceAdd, Int.reduceSub, Int.reduceMul, Int.reduceNeg, Int.reduceNe, Int.reduceBEq, Int.reduceBNe, Int.reduceToNat, h5, eq_true a1, eq_true a2, un_not, mustK, kMust, h2, encU_is]
      · simp (contextual := true) (dsimp := false) (disch := omega) only [↓kDown, kUp, ↓goDown, goUp, List.length_cons, List.length_nil, List.map_cons, List.map_nil, List.take_succ_cons, List.take_zero, List.drop_succ_cons, List.drop_zero, List.drop_nil, List.take_nil, List.cons_append, List.nil_append, List.append_nil, List.set_cons_zero, List.set_cons_succ, List.all_cons, List.all_nil, ↓reduceIte, reduceCtorEq, ge_iff_le, gt_iff_lt, eq_self_iff_true, beq_self_eq_true, beq_iff_eq, bne_iff_ne, ne_eq, ite_not, Int.reduceEq, Option.getD_some, Option.getD_none, ite_self, Nat.reduceAdd, Nat.reduceSub, Nat.reduceMul, Nat.reduceLeDiff, Nat.reduceEqDiff, Nat.reduceBEq, Nat.reduceBNe, Int.reduceLT, Int.reduceLE, Int.reduceAdd, Int.reduceSub, Int.reduceMul, Int.reduceNeg, Int.reduceNe, Int.reduceBEq, Int.reduceBNe, Int.reduceToNat, h5, eq_true a1, a2, un_not, mustK, kMust, h2, encU_is]
    · simp (contextual := true) (dsimp := false) (disch := omega) only [↓kDown, kUp, ↓goDown, goUp, List.length_cons, List.length_nil, List.map_cons, List.map_nil, List.take_succ_cons, List.take_zero, List.drop_succ_cons, List.drop_zero, List.drop_nil, List.take_nil, List.cons_append, List.nil_append, List.append_nil, List.set_cons_zero, List.set_cons_succ, List.all_cons, List.all_nil, ↓reduceIte, reduceCtorEq, ge_iff_le, gt_iff_lt, eq_self_iff_true, beq_self_eq_true, beq_iff_eq, bne_iff_ne, ne_eq, ite_not, Int.reduceEq, Option.getD_some, Option.getD_none, ite_self, Nat.reduceAdd, Nat.reduceSub, Nat.reduceMul, Nat.reduceLeDiff, Nat.reduceEqDiff, Nat.reduceBEq, Nat.reduceBNe, Int.reduceLT, Int.reduceLE, Int.reduceAdd, Int.reduceSub, Int.reduceMul, Int.reduceNeg, Int.reduceNe, Int.reduceBEq, Int.reduceBNe, Int.reduceToNat, h5, a1, un_not, mustK, kMust, h2, encU_is]) hc
end Go.Proofs.Ytofbbijagbpicaa.Pi.Q
namespace Go.Proofs.Ytofbbijagbpicaa.Pi.Q
open Go Go.Proofs.Ytofbbijagbpicaa.Pi
set_option linter.unusedVariables false
set_option linter.unusedSimpArgs false
set_option maxRecDepth 100000
attribute [local congr] ite_congr
variable {c : Nat} {H : Heap} {L : List Box} {acc : List UInt8}
def kField (v : FT) (acc : List UInt8) : KR :=
  (if v.ty = ⟨6, false, 0⟩ then kPut [120] acc else if v.ty = ⟨7, false, 0⟩ then kPut [119] acc else kVal v.ty acc).bind fun _ acc => kPut [if v.mu then 1 else 0] acc
theorem fieldK {v : FT} (hc : c < List.length H) : runK c (C k_entry_pen_field [.ptr c 0, .agg [.int .i64 v.ty.num, .bool v.ty.nul, .int .i64 v.ty.heap, .bool v.mu]]) (St H c (pB acc) L) = outK c H L pB encU (kField v acc) := liftK (fun H hc => by
  have h1 := fun L acc => byteK (c := c) (H := H) (L := L) (acc := acc) (n := 120) (by omega) (by omega) hc
  have h0 := fun L acc => byteK (c := c) (H := H) (L := L) (acc := acc) (n := 119) (by omega) (by omega) hc
  have he := fun K n => eql_V (H := K) (v := v.ty) (n := n)
  have hv := fun L acc => valK (c := c) (H := H) (L := L) (acc := acc) (v := v.ty) hc
  have hf := fun L acc => flagK (c := c) (H := H) (L := L) (acc := acc) (b := v.mu) hc
  rw [entry_pen_field_eq]
  unfold kField
  simp (contextual := true) (dsimp := false) (disch := omega) only [↓kDown, kUp, ↓goDown, goUp, List.length_cons, List.length_nil, List.map_cons, List.map_nil, List.take_succ_cons, List.take_zero, List.drop_succ_cons, List.drop_zero, List.drop_nil, List.take_nil, List.cons_append, List.nil_append, List.append_nil, List.set_cons_zero, List.set_cons_succ, List.all_cons, List.all_nil, ↓reduceIte, reduceCtorEq, ge_iff_le, gt_iff_lt, eq_self_iff_true, beq_self_eq_true, beq_iff_eq, bne_iff_ne, ne_eq, ite_not, Int.reduceEq, Option.getD_some, Option.getD_none, ite_self, Nat.reduceAdd, Nat.reduceSub, Nat.reduceMul, Nat.reduceLeDiff, Nat.reduceEqDiff, Nat.reduceBEq, Nat.reduceBNe, Int.reduceLT, Int.reduceLE, Int.reduceAdd, Int.reduceSub, Int.reduceMul, Int.reduceNeg, Int.reduceNe, Int.reduceBEq, Int.reduceBNe, Int.reduceToNat, he, h1, h0, hv, hf, p_entry_pen_field_11_eq, encU_is]
  rfl) hc
def kAll {α : Type} (one : α → List UInt8 → KR) : List α → List UInt8 → KR
  | [], acc => .ok () acc
  | v :: r, acc => (one v acc).bind fun _ acc => kAll one r acc
def kEach {α : Type} (most : Nat) (one : α → List UInt8 → KR) (l : List α) (acc : List UInt8) : KR :=
  if most < l.length then .err y_entry_fault [0, 2] else (kPut (putU l.length) acc).bind fun _ acc => kAll one l acc
theorem kvalLoop {one : VT → List UInt8 → KR} {f : PV} {l : List VT} (hl : l.length < 2 ^ 62) (hf : strip f = f) (hone : ∀ (H : Heap) (L : List Box) (acc : List UInt8) (v : VT), v ∈ l → c < List.length H → runK c (callV P C f [.agg [.int .i64 v.num, .bool v.nul, .int .i64 v.heap]]) (St H c (pB acc) L) = outK c H L pB encU (one v acc)) : ∀ (m i : Nat) (acc : List UInt8) (L : List Box) (H : Heap), i + m = l.length → c < List.length H →
    ∃ L', runK c (p_entry_each_api_ValType_1110 f (shutP 3 (l.map encV)) (.int .i64 l.length) (.int .i64 i)) (St H c (pB acc) L) = outK c H L' pB encU (kAll one (l.drop i) acc)
  | 0, i, acc, L, H, hi, hc => by
    have c1 : ¬ (i : Int) < l.length := by omega
    have e0 : l.drop i = [] := List.drop_eq_nil_of_le (by omega)
    refine ⟨L, ?_⟩
    rw [e0, p_entry_each_api_ValType_1110_eq]
    simp (contextual := true) (dsimp := false) (disch := omega) only [↓kDown, kUp, ↓goDown, goUp, List.length_cons, List.length_nil, List.map_cons, List.map_nil, List.take_succ_cons, List.take_zero, List.drop_succ_cons, List.drop_zero, List.drop_nil, List.take_nil, List.cons_append, List.nil_append, List.append_nil, List.set_cons_zero, List.set_cons_succ, List.all_cons, List.all_nil, ↓reduceIte, reduceCtorEq, ge_iff_le, gt_iff_lt, eq_self_iff_true, beq_self_eq_true, beq_iff_eq, bne_iff_ne, ne_eq, ite_not, Int.reduceEq, Option.getD_some, Option.getD_none, ite_self, Nat.reduceAdd, Nat.reduceSub, Nat.reduceMul, Nat.reduceLeDiff, Nat.reduceEqDiff, Nat.reduceBEq, Nat.reduceBNe, Int.reduceLT, Int.reduceLE, Int.reduceAdd, Int.reduceSub, Int.reduceMul, Int.reduceNeg, Int.reduceNe, Int.reduceBEq, Int.reduceBNe, Int.reduceToNat, c1, kAll, encU_is]
  | m + 1, i, acc, L, H, hi, hc => by
    have c1 : (i : Int) < l.length := by omega
    have hil : i < l.length := by omega
    have hg : (l.map encV)[i]? = some (encV l[i]) := by simp [hil]
    have hia : ∀ K, run (iaS 3 (shutP 3 (l.map encV)) (.int .i64 i)) K = some (.ok (.elem [.int .i64 l[i].num, .bool l[i].nul, .int .i64 l[i].heap]) K) := fun K => by
      rw [ia_P hg, run_iaS (by omega), Int.toNat_natCast, hg]
      rfl
    have hd : l.drop i = l[i] :: l.drop (i + 1) := List.drop_eq_getElem_cons hil
    have e1 : ((i : Int) + 1) = ((i + 1 : Nat) : Int) := rfl
    rw [hd, St_flat hc]
    have hc' : c < List.length (hadd H L) := by rw [len_add]; omega
    obtain ⟨K, hK⟩ : ∃ K, K = hadd H L := ⟨_, rfl⟩
    rw [← hK] at hc' ⊢
    have h1 := hone K [.cells [.int .i64 l[i].num, .bool l[i].nul, .int .i64 l[i].heap]] acc l[i] (List.getElem_mem hil) hc'
    simp only [kAll]
    cases hw : one l[i] acc with
    | ok u acc1 =>
      obtain ⟨L', ih⟩ := kvalLoop hl hf hone m (i + 1) acc1 [.cells [.int .i64 l[i].num, .bool l[i].nul, .int .i64 l[i].heap]] K (by omega) hc'
      refine ⟨L ++ L', ?_⟩
      rw [← outK_out hK hc]
      rw [p_entry_each_api_ValType_1110_eq]
      rw [hw] at h1
      simp (contextual := true) (dsimp := false) (disch := omega) only [↓kDown, kUp, ↓goDown, goUp, List.length_cons, List.length_nil, List.map_cons, List.map_nil, List.take_succ_cons, List.take_zero, List.drop_succ_cons, List.drop_zero, List.drop_nil, List.take_nil, List.cons_append, List.nil_append, List.append_nil, List.set_cons_zero, List.set_cons_succ, List.all_cons, List.all_nil, ↓reduceIte, reduceCtorEq, ge_iff_le, gt_iff_lt, eq_self_iff_true, beq_self_eq_true, beq_iff_eq, bne_iff_ne, ne_eq, ite_not, Int.reduceEq, Option.getD_some, Option.getD_none, ite_self, Nat.reduceAdd, Nat.reduceSub, Nat.reduceMul, Nat.reduceLeDiff, Nat.reduceEqDiff, Nat.reduceBEq, Nat.reduceBNe, Int.reduceLT, Int.reduceLE, Int.reduceAdd, Int.reduceSub, Int.reduceMul, Int.reduceNeg, Int.reduceNe, Int.reduceBEq, Int.reduceBNe, Int.reduceToNat, c1, hia, hf, e1, h1, ih, Res.bind, cells_P, isCell_P, low_P, stripC_P, isTup_P, strip_P]
    | err t w =>
      refine ⟨L ++ [.cells [.int .i64 l[i].num, .bool l[i].nul, .int .i64 l[i].heap]], ?_⟩
      rw [← outK_out hK hc]
      rw [p_entry_each_api_ValType_1110_eq]
      rw [hw] at h1
      simp (contextual := true) (dsimp := false) (disch := omega) only [↓kDown, kUp, ↓goDown, goUp, List.length_cons, List.length_nil, List.map_cons, List.map_nil, List.take_succ_cons, List.take_zero, List.drop_succ_cons, List.drop_zero, List.drop_nil, List.take_nil, List.cons_append, List.nil_append, List.append_nil, List.set_cons_zero, List.set_cons_succ, List.all_cons, List.all_nil, ↓reduceIte, reduceCtorEq, ge_iff_le, gt_iff_lt, eq_self_iff_true, beq_self_eq_true, beq_iff_eq, bne_iff_ne, ne_eq, ite_not, Int.reduceEq, Option.getD_some, Option.getD_none, ite_self, Nat.reduceAdd, Nat.reduceSub, Nat.reduceMul, Nat.reduceLeDiff, Nat.reduceEqDiff, Nat.reduceBEq, Nat.reduceBNe, Int.reduceLT, Int.reduceLE, Int.reduceAdd, Int.reduceSub, Int.reduceMul, Int.reduceNeg, Int.reduceNe, Int.reduceBEq, Int.reduceBNe, Int.reduceToNat, c1, hia, hf, e1, h1, Res.bind, cells_P, isCell_P, low_P, stripC_P, isTup_P, strip_P]
    | no =>
      refine ⟨L, ?_⟩
      rw [p_entry_each_api_ValType_1110_eq]
      rw [hw] at h1
      simp (contextual := true) (dsimp := false) (disch := omega) only [↓kDown, kUp, ↓goDown, goUp, List.length_cons, List.length_nil, List.map_cons, List.map_nil, List.take_succ_cons, List.take_zero, List.drop_succ_cons, List.drop_zero, List.drop_nil, List.take_nil, List.cons_append, List.nil_append, List.append_nil, List.set_cons_zero, List.set_cons_succ, List.all_cons, List.all_nil, ↓reduceIte, reduceCtorEq, ge_iff_le, gt_iff_lt, eq_self_iff_true, beq_self_eq_true, beq_iff_eq, bne_iff_ne, ne_eq, ite_not, Int.reduceEq, Option.getD_some, Option.getD_none, ite_self, Nat.reduceAdd, Nat.reduceSub, Nat.reduceMul, Nat.reduceLeDiff, Nat.reduceEqDiff, Nat.reduceBEq, Nat.reduceBNe, Int.reduceLT, Int.reduceLE, Int.reduceAdd, Int.reduceSub, Int.reduceMul, Int.reduceNeg, Int.reduceNe, Int.reduceBEq, Int.reduceBNe, Int.reduceToNat, c1, hia, hf, e1, h1, Res.bind, cells_P, isCell_P, low_P, stripC_P, isTup_P, strip_P]
theorem kvalEach {one : VT → List UInt8 → KR} {f : PV} {l : List VT} {most : Nat} (hf : strip f = f) (hm : most ≤ 1000000) (hl : l.length < 2 ^ 62) (hone : ∀ (H : Heap) (L : List Box) (acc : List UInt8) (v : VT), v ∈ l → c < List.length H → runK c (callV P C f [.agg [.int .i64 v.num, .bool v.nul, .int .i64 v.heap]]) (St H c (pB acc) L) = outK c H L pB encU (one v acc)) (hc : c < List.length H) :
    runK c (C k_entry_each_api_ValType [.ptr c 0, shutP 3 (l.map encV), .int .i64 most, f]) (St H c (pB acc) L) = outK c H L pB encU (kEach most one l acc) := liftK (fun H hc => by
  have hu := fun L acc h0 h1 => uK (c := c) (H := H) (L := L) (acc := acc) (n := (l.length : Int)) h0 h1 hc
  rw [entry_each_api_ValType_eq]
  unfold kEach
  by_cases h : most < l.length
  · have c1 : (most : Int) < l.length := by omega
    simp (contextual := true) (dsimp := false) (disch := omega) only [↓kDown, kUp, ↓goDown, goUp, List.length_cons, List.length_nil, List.map_cons, List.map_nil, List.take_succ_cons, List.take_zero, List.drop_succ_cons, List.drop_zero, List.drop_nil, List.take_nil, List.cons_append, List.nil_append, List.append_nil, List.set_cons_zero, List.set_cons_succ, List.all_cons, List.all_nil, ↓reduceIte, reduceCtorEq, ge_iff_le, gt_iff_lt, eq_self_iff_true, beq_self_eq_true, beq_iff_eq, bne_iff_ne, ne_eq, ite_not, Int.reduceEq, Option.getD_some, Option.getD_none, ite_self, Nat.reduceAdd, Nat.reduceSub, Nat.reduceMul, Nat.reduceLeDiff, Nat.reduceEqDiff, Nat.reduceBEq, Nat.reduceBNe, Int.reduceLT, Int.reduceLE, Int.reduceAdd, Int.reduceSub, Int.reduceMul, Int.reduceNeg, Int.reduceNe, Int.reduceBEq, Int.reduceBNe, Int.reduceToNat, if_pos h, strip_P, ln_P, List.length_map, c1]
  · have c1 : ¬ (most : Int) < l.length := by omega
    have hw : IntKind.u64.wrap (l.length : Int) = l.length := by rw [wu]; omega
    have hlp := fun acc => kvalLoop (c := c) hl hf hone l.length 0 acc [] H (by omega) hc
    rw [if_neg h]
    obtain ⟨L1, hlp⟩ := hlp (acc ++ putU l.length)
    have hlp : runK c (p_entry_each_api_ValType_1110 f (shutP 3 (l.map encV)) (.int .i64 l.length) (.int .i64 0)) (St H c (pB (acc ++ putU l.length)) []) = outK c H L1 pB encU (kAll one l (acc ++ putU l.length)) := hlp
    unfold kPut at hu ⊢
    simp (contextual := true) (dsimp := false) (disch := omega) only [↓kDown, kUp, ↓goDown, goUp, List.length_cons, List.length_nil, List.map_cons, List.map_nil, List.take_succ_cons, List.take_zero, List.drop_succ_cons, List.drop_zero, List.drop_nil, List.take_nil, List.cons_append, List.nil_append, List.append_nil, List.set_cons_zero, List.set_cons_succ, List.all_cons, List.all_nil, ↓reduceIte, reduceCtorEq, ge_iff_le, gt_iff_lt, eq_self_iff_true, beq_self_eq_true, beq_iff_eq, bne_iff_ne, ne_eq, ite_not, Int.reduceEq, Option.getD_some, Option.getD_none, ite_self, Nat.reduceAdd, Nat.reduceSub, Nat.reduceMul, Nat.reduceLeDiff, Nat.reduceEqDiff, Nat.reduceBEq, Nat.reduceBNe, Int.reduceLT, Int.reduceLE, Int.reduceAdd, Int.reduceSub, Int.reduceMul, Int.reduceNeg, Int.reduceNe, Int.reduceBEq, Int.reduceBNe, Int.reduceToNat, strip_P, ln_P, List.length_map, c1, p_entry_each_api_ValType_1_eq, hw, hu, hlp, Int.toNat_natCast, hf, encU_is]) hc
theorem kfieldLoop {one : FT → List UInt8 → KR} {f : PV} {l : List FT} (hl : l.length < 2 ^ 62) (hf : strip f = f) (hone : ∀ (H : Heap) (L : List Box) (acc : List UInt8) (v : FT), v ∈ l → c < List.length H → runK c (callV P C f [.agg [.int .i64 v.ty.num, .bool v.ty.nul, .int .i64 v.ty.heap, .bool v.mu]]) (St H c (pB acc) L) = outK c H L pB encU (one v acc)) : ∀ (m i : Nat) (acc : List UInt8) (L : List Box) (H : Heap), i + m = l.length → c < List.length H →
    ∃ L', runK c (p_entry_each_api_Field_1110 f (shutP 4 (l.map encF)) (.int .i64 l.length) (.int .i64 i)) (St H c (pB acc) L) = outK c H L' pB encU (kAll one (l.drop i) acc)
  | 0, i, acc, L, H, hi, hc => by
    have c1 : ¬ (i : Int) < l.length := by omega
    have e0 : l.drop i = [] := List.drop_eq_nil_of_le (by omega)
    refine ⟨L, ?_⟩
    rw [e0, p_entry_each_api_Field_1110_eq]
    simp (contextual := true) (dsimp := false) (disch := omega) only [↓kDown, kUp, ↓goDown, goUp, List.length_cons, List.length_nil, List.map_cons, List.map_nil, List.take_succ_cons, List.take_zero, List.drop_succ_cons, List.drop_zero, List.drop_nil, List.take_nil, List.cons_append, List.nil_append, List.append_nil, List.set_cons_zero, List.set_cons_succ, List.all_cons, List.all_nil, ↓reduceIte, reduceCtorEq, ge_iff_le, gt_iff_lt, eq_self_iff_true, beq_self_eq_true, beq_iff_eq, bne_iff_ne, ne_eq, ite_not, Int.reduceEq, Option.getD_some, Option.getD_none, ite_self, Nat.reduceAdd, Nat.reduceSub, Nat.reduceMul, Nat.reduceLeDiff, Nat.reduceEqDiff, Nat.reduceBEq, Nat.reduceBNe, Int.reduceLT, Int.reduceLE, Int.reduceAdd, Int.reduceSub, Int.reduceMul, Int.reduceNeg, Int.reduceNe, Int.reduceBEq, Int.reduceBNe, Int.reduceToNat, c1, kAll, encU_is]
  | m + 1, i, acc, L, H, hi, hc => by
    have c1 : (i : Int) < l.length := by omega
    have hil : i < l.length := by omega
    have hg : (l.map encF)[i]? = some (encF l[i]) := by simp [hil]
    have hia : ∀ K, run (iaS 4 (shutP 4 (l.map encF)) (.int .i64 i)) K = some (.ok (.elem [.int .i64 l[i].ty.num, .bool l[i].ty.nul, .int .i64 l[i].ty.heap, .bool l[i].mu]) K) := fun K => by
      rw [ia_P hg, run_iaS (by omega), Int.toNat_natCast, hg]
      rfl
    have hd : l.drop i = l[i] :: l.drop (i + 1) := List.drop_eq_getElem_cons hil
    have e1 : ((i : Int) + 1) = ((i + 1 : Nat) : Int) := rfl
    rw [hd, St_flat hc]
    have hc' : c < List.length (hadd H L) := by rw [len_add]; omega
    obtain ⟨K, hK⟩ : ∃ K, K = hadd H L := ⟨_, rfl⟩
    rw [← hK] at hc' ⊢
    have h1 := hone K [.cells [.int .i64 l[i].ty.num, .bool l[i].ty.nul, .int .i64 l[i].ty.heap, .bool l[i].mu]] acc l[i] (List.getElem_mem hil) hc'
    simp only [kAll]
    cases hw : one l[i] acc with
    | ok u acc1 =>
      obtain ⟨L', ih⟩ := kfieldLoop hl hf hone m (i + 1) acc1 [.cells [.int .i64 l[i].ty.num, .bool l[i].ty.nul, .int .i64 l[i].ty.heap, .bool l[i].mu]] K (by omega) hc'
      refine ⟨L ++ L', ?_⟩
      rw [← outK_out hK hc]
      rw [p_entry_each_api_Field_1110_eq]
      rw [hw] at h1
      simp (contextual := true) (dsimp := false) (disch := omega) only [↓kDown, kUp, ↓goDown, goUp, List.length_cons, List.length_nil, List.map_cons, List.map_nil, List.take_succ_cons, List.take_zero, List.drop_succ_cons, List.drop_zero, List.drop_nil, List.take_nil, List.cons_append, List.nil_append, List.append_nil, List.set_cons_zero, List.set_cons_succ, List.all_cons, List.all_nil, ↓reduceIte, reduceCtorEq, ge_iff_le, gt_iff_lt, eq_self_iff_true, beq_self_eq_true, beq_iff_eq, bne_iff_ne, ne_eq, ite_not, Int.reduceEq, Option.getD_some, Option.getD_none, ite_self, Nat.reduceAdd, Nat.reduceSub, Nat.reduceMul, Nat.reduceLeDiff, Nat.reduceEqDiff, Nat.reduceBEq, Nat.reduceBNe, Int.reduceLT, Int.reduceLE, Int.reduceAdd, Int.reduceSub, Int.reduceMul, Int.reduceNeg, Int.reduceNe, Int.reduceBEq, Int.reduceBNe, Int.reduceToNat, c1, hia, hf, e1, h1, ih, Res.bind, cells_P, isCell_P, low_P, stripC_P, isTup_P, strip_P]
    | err t w =>
      refine ⟨L ++ [.cells [.int .i64 l[i].ty.num, .bool l[i].ty.nul, .int .i64 l[i].ty.heap, .bool l[i].mu]], ?_⟩
      rw [← outK_out hK hc]
      rw [p_entry_each_api_Field_1110_eq]
      rw [hw] at h1
      simp (contextual := true) (dsimp := false) (disch := omega) only [↓kDown, kUp, ↓goDown, goUp, List.length_cons, List.length_nil, List.map_cons, List.map_nil, List.take_succ_cons, List.take_zero, List.drop_succ_cons, List.drop_zero, List.drop_nil, List.take_nil, List.cons_append, List.nil_append, List.append_nil, List.set_cons_zero, List.set_cons_succ, List.all_cons, List.all_nil, ↓reduceIte, reduceCtorEq, ge_iff_le, gt_iff_lt, eq_self_iff_true, beq_self_eq_true, beq_iff_eq, bne_iff_ne, ne_eq, ite_not, Int.reduceEq, Option.getD_some, Option.getD_none, ite_self, Nat.reduceAdd, Nat.reduceSub, Nat.reduceMul, Nat.reduceLeDiff, Nat.reduceEqDiff, Nat.reduceBEq, Nat.reduceBNe, Int.reduceLT, Int.reduceLE, Int.reduceAdd, Int.reduceSub, Int.reduceMul, Int.reduceNeg, Int.reduceNe, Int.reduceBEq, Int.reduceBNe, Int.reduceToNat, c1, hia, hf, e1, h1, Res.bind, cells_P, isCell_P, low_P, stripC_P, isTup_P, strip_P]
    | no =>
      refine ⟨L, ?_⟩
      rw [p_entry_each_api_Field_1110_eq]
      rw [hw] at h1
      simp (contextual := true) (dsimp := false) (disch := omega) only [↓kDown, kUp, ↓goDown, goUp, List.length_cons, List.length_nil, List.map_cons, List.map_nil, List.take_succ_cons, List.take_zero, List.drop_succ_cons, List.drop_zero, List.drop_nil, List.take_nil, List.cons_append, List.nil_append, List.append_nil, List.set_cons_zero, List.set_cons_succ, List.all_cons, List.all_nil, ↓reduceIte, reduceCtorEq, ge_iff_le, gt_iff_lt, eq_self_iff_true, beq_self_eq_true, beq_iff_eq, bne_iff_ne, ne_eq, ite_not, Int.reduceEq, Option.getD_some, Option.getD_none, ite_self, Nat.reduceAdd, Nat.reduceSub, Nat.reduceMul, Nat.reduceLeDiff, Nat.reduceEqDiff, Nat.reduceBEq, Nat.reduceBNe, Int.reduceLT, Int.reduceLE, Int.reduceAdd, Int.reduceSub, Int.reduceMul, Int.reduceNeg, Int.reduceNe, Int.reduceBEq, Int.reduceBNe, Int.reduceToNat, c1, hia, hf, e1, h1, Res.bind, cells_P, isCell_P, low_P, stripC_P, isTup_P, strip_P]
theorem kfieldEach {one : FT → List UInt8 → KR} {f : PV} {l : List FT} {most : Nat} (hf : strip f = f) (hm : most ≤ 1000000) (hl : l.length < 2 ^ 62) (hone : ∀ (H : Heap) (L : List Box) (acc : List UInt8) (v : FT), v ∈ l → c < List.length H → runK c (callV P C f [.agg [.int .i64 v.ty.num, .bool v.ty.nul, .int .i64 v.ty.heap, .bool v.mu]]) (St H c (pB acc) L) = outK c H L pB encU (one v acc)) (hc : c < List.length H) :
    runK c (C k_entry_each_api_Field [.ptr c 0, shutP 4 (l.map encF), .int .i64 most, f]) (St H c (pB acc) L) = outK c H L pB encU (kEach most one l acc) := liftK (fun H hc => by
  have hu := fun L acc h0 h1 => uK (c := c) (H := H) (L := L) (acc := acc) (n := (l.length : Int)) h0 h1 hc
  rw [entry_each_api_Field_eq]
  unfold kEach
  by_cases h : most < l.length
  · have c1 : (most : Int) < l.length := by omega
    simp (contextual := true) (dsimp := false) (disch := omega) only [↓kDown, kUp, ↓goDown, goUp, List.length_cons, List.length_nil, List.map_cons, List.map_nil, List.take_succ_cons, List.take_zero, List.drop_succ_cons, List.drop_zero, List.drop_nil, List.take_nil, List.cons_append, List.nil_append, List.append_nil, List.set_cons_zero, List.set_cons_succ, List.all_cons, List.all_nil, ↓reduceIte, reduceCtorEq, ge_iff_le, gt_iff_lt, eq_self_iff_true, beq_self_eq_true, beq_iff_eq, bne_iff_ne, ne_eq, ite_not, Int.reduceEq, Option.getD_some, Option.getD_none, ite_self, Nat.reduceAdd, Nat.reduceSub, Nat.reduceMul, Nat.reduceLeDiff, Nat.reduceEqDiff, Nat.reduceBEq, Nat.reduceBNe, Int.reduceLT, Int.reduceLE, Int.reduceAdd, Int.reduceSub, Int.reduceMul, Int.reduceNeg, Int.reduceNe, Int.reduceBEq, Int.reduceBNe, Int.reduceToNat, if_pos h, strip_P, ln_P, List.length_map, c1]
  · have c1 : ¬ (most : Int) < l.length := by omega
    have hw : IntKind.u64.wrap (l.length : Int) = l.length := by rw [wu]; omega
    have hlp := fun acc => kfieldLoop (c := c) hl hf hone l.length 0 acc [] H (by omega) hc
    rw [if_neg h]
    obtain ⟨L1, hlp⟩ := hlp (acc ++ putU l.length)
    have hlp : runK c (p_entry_each_api_Field_1110 f (shutP 4 (l.map encF)) (.int .i64 l.length) (.int .i64 0)) (St H c (pB (acc ++ putU l.length)) []) = outK c H L1 pB encU (kAll one l (acc ++ putU l.length)) := hlp
    unfold kPut at hu ⊢
    simp (contextual := true) (dsimp := false) (disch := omega) only [↓kDown, kUp, ↓goDown, goUp, List.length_cons, List.length_nil, List.map_cons, List.map_nil, List.take_succ_cons, List.take_zero, List.drop_succ_cons, List.drop_zero, List.drop_nil, List.take_nil, List.cons_append, List.nil_append, List.append_nil, List.set_cons_zero, List.set_cons_succ, List.all_cons, List.all_nil, ↓reduceIte, reduceCtorEq, ge_iff_le, gt_iff_lt, eq_self_iff_true, beq_self_eq_true, beq_iff_eq, bne_iff_ne, ne_eq, ite_not, Int.reduceEq, Option.getD_some, Option.getD_none, ite_self, Nat.reduceAdd, Nat.reduceSub, Nat.reduceMul, Nat.reduceLeDiff, Nat.reduceEqDiff, Nat.reduceBEq, Nat.reduceBNe, Int.reduceLT, Int.reduceLE, Int.reduceAdd, Int.reduceSub, Int.reduceMul, Int.reduceNeg, Int.reduceNe, Int.reduceBEq, Int.reduceBNe, Int.reduceToNat, strip_P, ln_P, List.length_map, c1, p_entry_each_api_Field_1_eq, hw, hu, hlp, Int.toNat_natCast, hf, encU_is]) hc
theorem kintLoop {one : Int → List UInt8 → KR} {f : PV} {l : List Int} (hl : l.length < 2 ^ 62) (hf : strip f = f) (hone : ∀ (H : Heap) (L : List Box) (acc : List UInt8) (v : Int), v ∈ l → c < List.length H → runK c (callV P C f [.int .i64 v]) (St H c (pB acc) L) = outK c H L pB encU (one v acc)) : ∀ (m i : Nat) (acc : List UInt8) (L : List Box) (H : Heap), i + m = l.length → c < List.length H →
    ∃ L', runK c (p_entry_each_int_1110 f (shutP 1 (l.map encI)) (.int .i64 l.length) (.int .i64 i)) (St H c (pB acc) L) = outK c H L' pB encU (kAll one (l.drop i) acc)
  | 0, i, acc, L, H, hi, hc => by
    have c1 : ¬ (i : Int) < l.length := by omega
    have e0 : l.drop i = [] := List.drop_eq_nil_of_le (by omega)
    refine ⟨L, ?_⟩
    rw [e0, p_entry_each_int_1110_eq]
    simp (contextual := true) (dsimp := false) (disch := omega) only [↓kDown, kUp, ↓goDown, goUp, List.length_cons, List.length_nil, List.map_cons, List.map_nil, List.take_succ_cons, List.take_zero, List.drop_succ_cons, List.drop_zero, List.drop_nil, List.take_nil, List.cons_append, List.nil_append, List.append_nil, List.set_cons_zero, List.set_cons_succ, List.all_cons, List.all_nil, ↓reduceIte, reduceCtorEq, ge_iff_le, gt_iff_lt, eq_self_iff_true, beq_self_eq_true, beq_iff_eq, bne_iff_ne, ne_eq, ite_not, Int.reduceEq, Option.getD_some, Option.getD_none, ite_self, Nat.reduceAdd, Nat.reduceSub, Nat.reduceMul, Nat.reduceLeDiff, Nat.reduceEqDiff, Nat.reduceBEq, Nat.reduceBNe, Int.reduceLT, Int.reduceLE, Int.reduceAdd, Int.reduceSub, Int.reduceMul, Int.reduceNeg, Int.reduceNe, Int.reduceBEq, Int.reduceBNe, Int.reduceToNat, c1, kAll, encU_is]
  | m + 1, i, acc, L, H, hi, hc => by
    have c1 : (i : Int) < l.length := by omega
    have hil : i < l.length := by omega
    have hg : (l.map encI)[i]? = some (encI l[i]) := by simp [hil]
    have hia : ∀ K, run (iaS 1 (shutP 1 (l.map encI)) (.int .i64 i)) K = some (.ok (.elem [.int .i64 l[i]]) K) := fun K => by
      rw [ia_P hg, run_iaS (by omega), Int.toNat_natCast, hg]
      rfl
    have hd : l.drop i = l[i] :: l.drop (i + 1) := List.drop_eq_getElem_cons hil
    have e1 : ((i : Int) + 1) = ((i + 1 : Nat) : Int) := rfl
    rw [hd, St_flat hc]
    have hc' : c < List.length (hadd H L) := by rw [len_add]; omega
    obtain ⟨K, hK⟩ : ∃ K, K = hadd H L := ⟨_, rfl⟩
    rw [← hK] at hc' ⊢
    have h1 := hone K [] acc l[i] (List.getElem_mem hil) hc'
    simp only [kAll]
    cases hw : one l[i] acc with
    | ok u acc1 =>
      obtain ⟨L', ih⟩ := kintLoop hl hf hone m (i + 1) acc1 [] K (by omega) hc'
      refine ⟨L ++ L', ?_⟩
      rw [← outK_out hK hc]
      rw [p_entry_each_int_1110_eq]
      rw [hw] at h1
      simp (contextual := true) (dsimp := false) (disch := omega) only [↓kDown, kUp, ↓goDown, goUp, List.length_cons, List.length_nil, List.map_cons, List.map_nil, List.take_succ_cons, List.take_zero, List.drop_succ_cons, List.drop_zero, List.drop_nil, List.take_nil, List.cons_append, List.nil_append, List.append_nil, List.set_cons_zero, List.set_cons_succ, List.all_cons, List.all_nil, ↓reduceIte, reduceCtorEq, ge_iff_le, gt_iff_lt, eq_self_iff_true, beq_self_eq_true, beq_iff_eq, bne_iff_ne, ne_eq, ite_not, Int.reduceEq, Option.getD_some, Option.getD_none, ite_self, Nat.reduceAdd, Nat.reduceSub, Nat.reduceMul, Nat.reduceLeDiff, Nat.reduceEqDiff, Nat.reduceBEq, Nat.reduceBNe, Int.reduceLT, Int.reduceLE, Int.reduceAdd, Int.reduceSub, Int.reduceMul, Int.reduceNeg, Int.reduceNe, Int.reduceBEq, Int.reduceBNe, Int.reduceToNat, c1, hia, hf, e1, h1, ih, Res.bind, cells_P, isCell_P, low_P, stripC_P, isTup_P, strip_P]
    | err t w =>
      refine ⟨L ++ [], ?_⟩
      rw [← outK_out hK hc]
      rw [p_entry_each_int_1110_eq]
      rw [hw] at h1
      simp (contextual := true) (dsimp := false) (disch := omega) only [↓kDown, kUp, ↓goDown, goUp, List.length_cons, List.length_nil, List.map_cons, List.map_nil, List.take_succ_cons, List.take_zero, List.drop_succ_cons, List.drop_zero, List.drop_nil, List.take_nil, List.cons_append, List.nil_append, List.append_nil, List.set_cons_zero, List.set_cons_succ, List.all_cons, List.all_nil, ↓reduceIte, reduceCtorEq, ge_iff_le, gt_iff_lt, eq_self_iff_true, beq_self_eq_true, beq_iff_eq, bne_iff_ne, ne_eq, ite_not, Int.reduceEq, Option.getD_some, Option.getD_none, ite_self, Nat.reduceAdd, Nat.reduceSub, Nat.reduceMul, Nat.reduceLeDiff, Nat.reduceEqDiff, Nat.reduceBEq, Nat.reduceBNe, Int.reduceLT, Int.reduceLE, Int.reduceAdd, Int.reduceSub, Int.reduceMul, Int.reduceNeg, Int.reduceNe, Int.reduceBEq, Int.reduceBNe, Int.reduceToNat, c1, hia, hf, e1, h1, Res.bind, cells_P, isCell_P, low_P, stripC_P, isTup_P, strip_P]
    | no =>
      refine ⟨L, ?_⟩
      rw [p_entry_each_int_1110_eq]
      rw [hw] at h1
      simp (contextual := true) (dsimp := false) (disch := omega) only [↓kDown, kUp, ↓goDown, goUp, List.length_cons, List.length_nil, List.map_cons, List.map_nil, List.take_succ_cons, List.take_zero, List.drop_succ_cons, List.drop_zero, List.drop_nil, List.take_nil, List.cons_append, List.nil_append, List.append_nil, List.set_cons_zero, List.set_cons_succ, List.all_cons, List.all_nil, ↓reduceIte, reduceCtorEq, ge_iff_le, gt_iff_lt, eq_self_iff_true, beq_self_eq_true, beq_iff_eq, bne_iff_ne, ne_eq, ite_not, Int.reduceEq, Option.getD_some, Option.getD_none, ite_self, Nat.reduceAdd, Nat.reduceSub, Nat.reduceMul, Nat.reduceLeDiff, Nat.reduceEqDiff, Nat.reduceBEq, Nat.reduceBNe, Int.reduceLT, Int.reduceLE, Int.reduceAdd, Int.reduceSub, Int.reduceMul, Int.reduceNeg, Int.reduceNe, Int.reduceBEq, Int.reduceBNe, Int.reduceToNat, c1, hia, hf, e1, h1, Res.bind, cells_P, isCell_P, low_P, stripC_P, isTup_P, strip_P]
theorem kintEach {one : Int → List UInt8 → KR} {f : PV} {l : List Int} {most : Nat} (hf : strip f = f) (hm : most ≤ 1000000) (hl : l.length < 2 ^ 62) (hone : ∀ (H : Heap) (L : List Box) (acc : List UInt8) (v : Int), v ∈ l → c < List.length H → runK c (callV P C f [.int .i64 v]) (St H c (pB acc) L) = outK c H L pB encU (one v acc)) (hc : c < List.length H) :
    runK c (C k_entry_each_int [.ptr c 0, shutP 1 (l.map encI), .int .i64 most, f]) (St H c (pB acc) L) = outK c H L pB encU (kEach most one l acc) := liftK (fun H hc => by
  have hu := fun L acc h0 h1 => uK (c := c) (H := H) (L := L) (acc := acc) (n := (l.length : Int)) h0 h1 hc
  rw [entry_each_int_eq]
  unfold kEach
  by_cases h : most < l.length
  · have c1 : (most : Int) < l.length := by omega
    simp (contextual := true) (dsimp := false) (disch := omega) only [↓kDown, kUp, ↓goDown, goUp, List.length_cons, List.length_nil, List.map_cons, List.map_nil, List.take_succ_cons, List.take_zero, List.drop_succ_cons, List.drop_zero, List.drop_nil, List.take_nil, List.cons_append, List.nil_append, List.append_nil, List.set_cons_zero, List.set_cons_succ, List.all_cons, List.all_nil, ↓reduceIte, reduceCtorEq, ge_iff_le, gt_iff_lt, eq_self_iff_true, beq_self_eq_true, beq_iff_eq, bne_iff_ne, ne_eq, ite_not, Int.reduceEq, Option.getD_some, Option.getD_none, ite_self, Nat.reduceAdd, Nat.reduceSub, Nat.reduceMul, Nat.reduceLeDiff, Nat.reduceEqDiff, Nat.reduceBEq, Nat.reduceBNe, Int.reduceLT, Int.reduceLE, Int.reduceAdd, Int.reduceSub, Int.reduceMul, Int.reduceNeg, Int.reduceNe, Int.reduceBEq, Int.reduceBNe, Int.reduceToNat, if_pos h, strip_P, ln_P, List.length_map, c1]
  · have c1 : ¬ (most : Int) < l.length := by omega
    have hw : IntKind.u64.wrap (l.length : Int) = l.length := by rw [wu]; omega
    have hlp := fun acc => kintLoop (c := c) hl hf hone l.length 0 acc [] H (by omega) hc
    rw [if_neg h]
    obtain ⟨L1, hlp⟩ := hlp (acc ++ putU l.length)
    have hlp : runK c (p_entry_each_int_1110 f (shutP 1 (l.map encI)) (.int .i64 l.length) (.int .i64 0)) (St H c (pB (acc ++ putU l.length)) []) = outK c H L1 pB encU (kAll one l (acc ++ putU l.length)) := hlp
    unfold kPut at hu ⊢
    simp (contextual := true) (dsimp := false) (disch := omega) only [↓kDown, kUp, ↓goDown, goUp, List.length_cons, List.length_nil, List.map_cons, List.map_nil, List.take_succ_cons, List.take_zero, List.drop_succ_cons, List.drop_zero, List.drop_nil, List.take_nil, List.cons_append, List.nil_append, List.append_nil, List.set_cons_zero, List.set_cons_succ, List.all_cons, List.all_nil, ↓reduceIte, reduceCtorEq, ge_iff_le, gt_iff_lt, eq_self_iff_true, beq_self_eq_true, beq_iff_eq, bne_iff_ne, ne_eq, ite_not, Int.reduceEq, Option.getD_some, Option.getD_none, ite_self, Nat.reduceAdd, Nat.reduceSub, Nat.reduceMul, Nat.reduceLeDiff, Nat.reduceEqDiff, Nat.reduceBEq, Nat.reduceBNe, Int.reduceLT, Int.reduceLE, Int.reduceAdd, Int.reduceSub, Int.reduceMul, Int.reduceNeg, Int.reduceNe, Int.reduceBEq, Int.reduceBNe, Int.reduceToNat, strip_P, ln_P, List.length_map, c1, p_entry_each_int_1_eq, hw, hu, hlp, Int.toNat_natCast, hf, encU_is]) hc
end Go.Proofs.Ytofbbijagbpicaa.Pi.Q
namespace Go.Proofs.Ytofbbijagbpicaa.Pi.Q
open Go Go.Proofs.Ytofbbijagbpicaa.Pi
set_option linter.unusedVariables false
set_option linter.unusedSimpArgs false
set_option maxRecDepth 100000
attribute [local congr] ite_congr
variable {c : Nat} {H : Heap} {L : List Box} {acc : List UInt8}
def kVals (l : List VT) (acc : List UInt8) : KR := kEach 1000 kVal l acc
theorem valsK {l : List VT} (hl : l.length < 2 ^ 62) (hc : c < List.length H) : runK c (C k_entry_pen_vals [.ptr c 0, shutP 3 (l.map encV)]) (St H c (pB acc) L) = outK c H L pB encU (kVals l acc) := liftK (fun H hc => by
  have hk := fun L acc => kvalEach (c := c) (H := H) (L := L) (acc := acc) (f := .fn k_entry_pen_val [.ptr c 0] []) (one := kVal) (most := 1000) rfl (by omega) hl (fun H L acc v _ hc => by rw [callV_fn]; exact valK hc) hc
  simp only [Int.cast_ofNat_Int] at hk
  rw [entry_pen_vals_eq]
  unfold kVals
  simp (contextual := true) (dsimp := false) (disch := omega) only [↓kDown, kUp, ↓goDown, goUp, List.length_cons, List.length_nil, List.map_cons, List.map_nil, List.take_succ_cons, List.take_zero, List.drop_succ_cons, List.drop_zero, List.drop_nil, List.take_nil, List.cons_append, List.nil_append, List.append_nil, List.set_cons_zero, List.set_cons_succ, List.all_cons, List.all_nil, ↓reduceIte, reduceCtorEq, ge_iff_le, gt_iff_lt, eq_self_iff_true, beq_self_eq_true, beq_iff_eq, bne_iff_ne, ne_eq, ite_not, Int.reduceEq, Option.getD_some, Option.getD_none, ite_self, Nat.reduceAdd, Nat.reduceSub, Nat.reduceMul, Nat.reduceLeDiff, Nat.reduceEqDiff, Nat.reduceBEq, Nat.reduceBNe, Int.reduceLT, Int.reduceLE, Int.reduceAdd, Int.reduceSub, Int.reduceMul, Int.reduceNeg, Int.reduceNe, Int.reduceBEq, Int.reduceBNe, Int.reduceToNat, strip_P, run_mf, hk, encU_is]) hc
def kComp (v : CT) (acc : List UInt8) : KR :=
  (kMust (v.kind == 1 || ((v.ps.length : Int) + v.rs.length == 0)) acc).bind fun _ acc =>
  if v.kind = 1 then (kMust ((v.fs.length : Int) == 0) acc).bind fun _ acc => (kPut [96] acc).bind fun _ acc => (kVals v.ps acc).bind fun _ acc => kVals v.rs acc
  else if v.kind = 2 then (kPut [95] acc).bind fun _ acc => kEach 10000 kField v.fs acc
  else if v.kind = 3 then match v.fs with
    | [f] => (kPut [94] acc).bind fun _ acc => kField f acc
    | _ => .err y_entry_fault [0, 4]
  else .err y_entry_fault [0, 4]
theorem bP_true {a b : Bool} : kMust (true || b) acc = .ok () acc := rfl
theorem compK {v : CT} (hv : v.fit) (hc : c < List.length H) : runK c (C k_entry_pen_comp [.ptr c 0, .agg [.int .i64 v.kind, shutP 3 (v.ps.map encV), shutP 3 (v.rs.map encV), shutP 4 (v.fs.map encF)]]) (St H c (pB acc) L) = outK c H L pB encU (kComp v acc) := liftK (fun H hc => by
  obtain ⟨a1, a2, a3⟩ := hv
  have h96 := fun L acc => byteK (c := c) (H := H) (L := L) (acc := acc) (n := 96) (by omega) (by omega) hc
  have h95 := fun L acc => byteK (c := c) (H := H) (L := L) (acc := acc) (n := 95) (by omega) (by omega) hc
  have h94 := fun L acc => byteK (c := c) (H := H) (L := L) (acc := acc) (n := 94) (by omega) (by omega) hc
  have hps := fun L acc => valsK (c := c) (H := H) (L := L) (acc := acc) (l := v.ps) (by omega) hc
  have hrs := fun L acc => valsK (c := c) (H := H) (L := L) (acc := acc) (l := v.rs) (by omega) hc
  have hfs := fun L acc => kfieldEach (c := c) (H := H) (L := L) (acc := acc) (l := v.fs) (f := .fn k_entry_pen_field [.ptr c 0] []) (one := kField) (most := 10000) rfl (by omega) (by omega) (fun H L acc v _ hc => by rw [callV_fn]; exact fieldK hc) hc
  simp only [Int.cast_ofNat_Int] at hfs
  have hf1 := fun L acc (f : FT) => fieldK (c := c) (H := H) (L := L) (acc := acc) (v := f) hc
  rw [entry_pen_comp_eq]
  unfold kComp
  by_cases h1 : v.kind = 1
  · simp (contextual := true) (dsimp := false) (disch := omega) only [↓kDown, kUp, ↓goDown, goUp, List.length_cons, List.length_nil, List.map_cons, List.map_nil, List.take_succ_cons, List.take_zero, List.drop_succ_cons, List.drop_zero, List.drop_nil, List.take_nil, List.cons_append, List.nil_append, List.append_nil, List.set_cons_zero, List.set_cons_succ, List.all_cons, List.all_nil, ↓reduceIte, reduceCtorEq, ge_iff_le, gt_iff_lt, eq_self_iff_true, beq_self_eq_true, beq_iff_eq, bne_iff_ne, ne_eq, ite_not, Int.reduceEq, Option.getD_some, Option.getD_none, ite_self, Nat.reduceAdd, Nat.reduceSub, Nat.reduceMul, Nat.reduceLeDiff, Nat.reduceEqDiff, Nat.reduceBEq, Nat.reduceBNe, Int.reduceLT, Int.reduceLE, Int.reduceAdd, Int.reduceSub, Int.reduceMul, Int.reduceNeg, Int.reduceNe, Int.reduceBEq, Int.reduceBNe, Int.reduceToNat, h1, ln_P, List.length_map, mustK, kMust, bP_true, h96, hps, hrs, encU_is, cells_P, isCell_P, low_P, stripC_P, isTup_P, strip_P] <;> rfl
  · have e1 : (v.kind == 1) = false := beq_false_of_ne h1
    by_cases h2 : v.kind = 2
    · have c2 : (2 : Int) ≠ 1 := by omega
      simp (contextual := true) (dsimp := false) (disch := omega) only [↓kDown, kUp, ↓goDown, goUp, List.length_cons, List.length_nil, List.map_cons, List.map_nil, List.take_succ_cons, List.take_zero, List.drop_succ_cons, List.drop_zero, List.drop_nil, List.take_nil, List.cons_append, List.nil_append, List.append_nil, List.set_cons_zero, List.set_cons_succ, List.all_cons, List.all_nil, ↓reduceIte, reduceCtorEq, ge_iff_le, gt_iff_lt, eq_self_iff_true, beq_self_eq_true, beq_iff_eq, bne_iff_ne, ne_eq, ite_not, Int.reduceEq, Option.getD_some, Option.getD_none, ite_self, Nat.reduceAdd, Nat.reduceSub, Nat.reduceMul, Nat.reduceLeDiff, Nat.reduceEqDiff, Nat.reduceBEq, Nat.reduceBNe, Int.reduceLT, Int.reduceLE, Int.reduceAdd, Int.reduceSub, Int.reduceMul, Int.reduceNeg, Int.reduceNe, Int.reduceBEq, Int.reduceBNe, Int.reduceToNat, h2, c2, Bool.false_or, run_mf, ln_P, List.length_map, mustK, kMust, bP_true, h95, hfs, encU_is, cells_P, isCell_P, low_P, stripC_P, isTup_P, strip_P] <;> rfl
    · by_cases h3 : v.kind = 3
      · have hia : ∀ (f : FT) K, run (iaS 4 (shutP 4 [encF f]) (.int .i64 0)) K = some (.ok (.elem [.int .i64 f.ty.num, .bool f.ty.nul, .int .i64 f.ty.heap, .bool f.mu]) K) := fun f K => rfl
        have hln : (((1 : Nat) : Int) = 1) = True := eq_true rfl
        have e2 : (3 : Int) ≠ 1 := by omega
        have e3 : (3 : Int) ≠ 2 := by omega
        match hv : v.fs with
        | [] =>
          have e5 : ((0 : Nat) : Int) ≠ 1 := by decide
          simp (contextual := true) (dsimp := false) (disch := omega) only [↓kDown, kUp, ↓goDown, goUp, List.length_cons, List.length_nil, List.map_cons, List.map_nil, List.take_succ_cons, List.take_zero, List.drop_succ_cons, List.drop_zero, List.drop_nil, List.take_nil, List.cons_append, List.nil_append, List.append_nil, List.set_cons_zero, List.set_cons_succ, List.all_cons, List.all_nil, ↓reduceIte, reduceCtorEq, ge_iff_le, gt_iff_lt, eq_self_iff_true, beq_self_eq_true, beq_iff_eq, bne_iff_ne, ne_eq, ite_not, Int.reduceEq, Option.getD_some, Option.getD_none, ite_self, Nat.reduceAdd, Nat.reduceSub, Nat.reduceMul, Nat.reduceLeDiff, Nat.reduceEqDiff, Nat.reduceBEq, Nat.reduceBNe, Int.reduceLT, Int.reduceLE, Int.reduceAdd, Int.reduceSub, Int.reduceMul, Int.reduceNeg, Int.reduceNe, Int.reduceBEq, Int.reduceBNe, Int.reduceToNat, h3, e2, e3, e5, Bool.false_or, ln_P, hv, List.length_map, mustK, kMust, bP_true, encU_is, cells_P, isCell_P, low_P, stripC_P, isTup_P, strip_P] <;> rfl
        | [f] => simp (contextual := true) (dsimp := false) (disch := omega) only [↓kDown, kUp, ↓goDown, goUp, List.length_cons, List.length_nil, List.map_cons, List.map_nil, List.take_succ_cons, List.take_zero, List.drop_succ_cons, List.drop_zero, List.drop_nil, List.take_nil, List.cons_append, List.nil_append, List.append_nil, List.set_cons_zero, List.set_cons_succ, List.all_cons, List.all_nil, ↓reduceIte, reduceCtorEq, ge_iff_le, gt_iff_lt, eq_self_iff_true, beq_self_eq_true, beq_iff_eq, bne_iff_ne, ne_eq, ite_not, Int.reduceEq, Option.getD_some, Option.getD_none, ite_self, Nat.reduceAdd, Nat.reduceSub, Nat.reduceMul, Nat.reduceLeDiff, Nat.reduceEqDiff, Nat.reduceBEq, Nat.reduceBNe, Int.reduceLT, Int.reduceLE, Int.reduceAdd, Int.reduceSub, Int.reduceMul, Int.reduceNeg, Int.reduceNe, Int.reduceBEq, Int.reduceBNe, Int.reduceToNat, h3, e2, e3, Bool.false_or, ln_P, hln, hia, hv, List.length_map, mustK, kMust, bP_true, h94, hf1, encU_is, cells_P, isCell_P, low_P, stripC_P, isTup_P, strip_P] <;> rfl
        | f :: g :: r =>
          have e4 : ¬ ((r.length + 1 + 1 : Nat) : Int) = 1 := by omega
          simp (contextual := true) (dsimp := false) (disch := omega) only [↓kDown, kUp, ↓goDown, goUp, List.length_cons, List.length_nil, List.map_cons, List.map_nil, List.take_succ_cons, List.take_zero, List.drop_succ_cons, List.drop_zero, List.drop_nil, List.take_nil, List.cons_append, List.nil_append, List.append_nil, List.set_cons_zero, List.set_cons_succ, List.all_cons, List.all_nil, ↓reduceIte, reduceCtorEq, ge_iff_le, gt_iff_lt, eq_self_iff_true, beq_self_eq_true, beq_iff_eq, bne_iff_ne, ne_eq, ite_not, Int.reduceEq, Option.getD_some, Option.getD_none, ite_self, Nat.reduceAdd, Nat.reduceSub, Nat.reduceMul, Nat.reduceLeDiff, Nat.reduceEqDiff, Nat.reduceBEq, Nat.reduceBNe, Int.reduceLT, Int.reduceLE, Int.reduceAdd, Int.reduceSub, Int.reduceMul, Int.reduceNeg, Int.reduceNe, Int.reduceBEq, Int.reduceBNe, Int.reduceToNat, h3, e2, e3, e4, Bool.false_or, ln_P, hv, List.length_map, mustK, kMust, bP_true, encU_is, cells_P, isCell_P, low_P, stripC_P, isTup_P, strip_P] <;> rfl
      · simp (contextual := true) (dsimp := false) (disch := omega) only [↓kDown, kUp, ↓goDown, goUp, List.length_cons, List.length_nil, List.map_cons, List.map_nil, List.take_succ_cons, List.take_zero, List.drop_succ_cons, List.drop_zero, List.drop_nil, List.take_nil, List.cons_append, List.nil_append, List.append_nil, List.set_cons_zero, List.set_cons_succ, List.all_cons, List.all_nil, ↓reduceIte, reduceCtorEq, ge_iff_le, gt_iff_lt, eq_self_iff_true, beq_self_eq_true, beq_iff_eq, bne_iff_ne, ne_eq, ite_not, Int.reduceEq, Option.getD_some, Option.getD_none, ite_self, Nat.reduceAdd, Nat.reduceSub, Nat.reduceMul, Nat.reduceLeDiff, Nat.reduceEqDiff, Nat.reduceBEq, Nat.reduceBNe, Int.reduceLT, Int.reduceLE, Int.reduceAdd, Int.reduceSub, Int.reduceMul, Int.reduceNeg, Int.reduceNe, Int.reduceBEq, Int.reduceBNe, Int.reduceToNat, h1, h2, h3, e1, Bool.false_or, ln_P, List.length_map, mustK, kMust, bP_true, encU_is, cells_P, isCell_P, low_P, stripC_P, isTup_P, strip_P] <;> rfl) hc
def kSub (v : ST) (acc : List UInt8) : KR :=
  if v.fin = true ∧ (v.sup.length : Int) = 0 then kComp v.comp acc
  else (if v.fin = true then kPut [79] acc else kPut [80] acc).bind fun _ acc => (kEach 1000 kIndex v.sup acc).bind fun _ acc => kComp v.comp acc
theorem subK {v : ST} (hv : v.fit) (hc : c < List.length H) : runK c (C k_entry_pen_sub [.ptr c 0, .agg [.bool v.fin, shutP 1 (v.sup.map encI), .int .i64 v.comp.kind, shutP 3 (v.comp.ps.map encV), shutP 3 (v.comp.rs.map encV), shutP 4 (v.comp.fs.map encF)]]) (St H c (pB acc) L) = outK c H L pB encU (kSub v acc) := liftK (fun H hc => by
  obtain ⟨a1, a2⟩ := hv
  have h79 := fun L acc => byteK (c := c) (H := H) (L := L) (acc := acc) (n := 79) (by omega) (by omega) hc
  have h80 := fun L acc => byteK (c := c) (H := H) (L := L) (acc := acc) (n := 80) (by omega) (by omega) hc
  have hk := fun L acc => kintEach (c := c) (H := H) (L := L) (acc := acc) (f := .fn k_entry_pen_index [.ptr c 0] []) (one := kIndex) (l := v.sup) (most := 1000) rfl (by omega) (by omega) (fun H L acc v _ hc => by rw [callV_fn]; exact indexK hc) hc
  simp only [Int.cast_ofNat_Int] at hk
  have hcm := fun L acc => compK (c := c) (H := H) (L := L) (acc := acc) a2 hc
  rw [entry_pen_sub_eq]
  unfold kSub
  cases v.fin <;> simp (contextual := true) (dsimp := false) (disch := omega) only [↓kDown, kUp, ↓goDown, goUp, List.length_cons, List.length_nil, List.map_cons, List.map_nil, List.take_succ_cons, List.take_zero, List.drop_succ_cons, List.drop_zero, List.drop_nil, List.take_nil, List.cons_append, List.nil_append, List.append_nil, List.set_cons_zero, List.set_cons_succ, List.all_cons, List.all_nil, ↓reduceIte, reduceCtorEq, ge_iff_le, gt_iff_lt, eq_self_iff_true, beq_self_eq_true, beq_iff_eq, bne_iff_ne, ne_eq, ite_not, Int.reduceEq, Option.getD_some, Option.getD_none, ite_self, Nat.reduceAdd, Nat.reduceSub, Nat.reduceMul, Nat.reduceLeDiff, Nat.reduceEqDiff, Nat.reduceBEq, Nat.reduceBNe, Int.reduceLT, Int.reduceLE, Int.reduceAdd, Int.reduceSub, Int.reduceMul, Int.reduceNeg, Int.reduceNe, Int.reduceBEq, Int.reduceBNe, Int.reduceToNat, ln_P, List.length_map, h79, h80, run_mf, hk, hcm, p_entry_pen_sub_11_eq, encU_is, cells_P, isCell_P, low_P, stripC_P, isTup_P, strip_P] <;> rfl) hc
theorem ksubLoop {one : ST → List UInt8 → KR} {f : PV} {l : List ST} (hl : l.length < 2 ^ 62) (hf : strip f = f) (hone : ∀ (H : Heap) (L : List Box) (acc : List UInt8) (v : ST), v ∈ l → c < List.length H → runK c (callV P C f [.agg [.bool v.fin, shutP 1 (v.sup.map encI), .int .i64 v.comp.kind, shutP 3 (v.comp.ps.map encV), shutP 3 (v.comp.rs.map encV), shutP 4 (v.comp.fs.map encF)]]) (St H c (pB acc) L) = outK c H L pB encU (one v acc)) : ∀ (m i : Nat) (acc : List UInt8) (L : List Box) (H : Heap), i + m = l.length → c < List.length H →
    ∃ L', runK c (p_entry_each_api_SubType_1110 f (shutP 6 (l.map encS)) (.int .i64 l.length) (.int .i64 i)) (St H c (pB acc) L) = outK c H L' pB encU (kAll one (l.drop i) acc)
  | 0, i, acc, L, H, hi, hc => by
    have c1 : ¬ (i : Int) < l.length := by omega
    have e0 : l.drop i = [] := List.drop_eq_nil_of_le (by omega)
    refine ⟨L, ?_⟩
    rw [e0, p_entry_each_api_SubType_1110_eq]
    simp (contextual := true) (dsimp := false) (disch := omega) only [↓kDown, kUp, ↓goDown, goUp, List.length_cons, List.length_nil, List.map_cons, List.map_nil, List.take_succ_cons, List.take_zero, List.drop_succ_cons, List.drop_zero, List.drop_nil, List.take_nil, List.cons_append, List.nil_append, List.append_nil, List.set_cons_zero, List.set_cons_succ, List.all_cons, List.all_nil, ↓reduceIte, reduceCtorEq, ge_iff_le, gt_iff_lt, eq_self_iff_true, beq_self_eq_true, beq_iff_eq, bne_iff_ne, ne_eq, ite_not, Int.reduceEq, Option.getD_some, Option.getD_none, ite_self, Nat.reduceAdd, Nat.reduceSub, Nat.reduceMul, Nat.reduceLeDiff, Nat.reduceEqDiff, Nat.reduceBEq, Nat.reduceBNe, Int.reduceLT, Int.reduceLE, Int.reduceAdd, Int.reduceSub, Int.reduceMul, Int.reduceNeg, Int.reduceNe, Int.reduceBEq, Int.reduceBNe, Int.reduceToNat, c1, kAll, encU_is]
  | m + 1, i, acc, L, H, hi, hc => by
    have c1 : (i : Int) < l.length := by omega
    have hil : i < l.length := by omega
    have hg : (l.map encS)[i]? = some (encS l[i]) := by simp [hil]
    have hia : ∀ K, run (iaS 6 (shutP 6 (l.map encS)) (.int .i64 i)) K = some (.ok (.elem [.bool l[i].fin, shutP 1 (l[i].sup.map encI), .int .i64 l[i].comp.kind, shutP 3 (l[i].comp.ps.map encV), shutP 3 (l[i].comp.rs.map encV), shutP 4 (l[i].comp.fs.map encF)]) K) := fun K => by
      rw [ia_P hg, run_iaS (by omega), Int.toNat_natCast, hg]
      rfl
    have hd : l.drop i = l[i] :: l.drop (i + 1) := List.drop_eq_getElem_cons hil
    have e1 : ((i : Int) + 1) = ((i + 1 : Nat) : Int) := rfl
    rw [hd, St_flat hc]
    have hc' : c < List.length (hadd H L) := by rw [len_add]; omega
    obtain ⟨K, hK⟩ : ∃ K, K = hadd H L := ⟨_, rfl⟩
    rw [← hK] at hc' ⊢
    have h1 := hone K [.cells [.bool l[i].fin, shutP 1 (l[i].sup.map encI), .int .i64 l[i].comp.kind, shutP 3 (l[i].comp.ps.map encV), shutP 3 (l[i].comp.rs.map encV), shutP 4 (l[i].comp.fs.map encF)]] acc l[i] (List.getElem_mem hil) hc'
    simp only [kAll]
    cases hw : one l[i] acc with
    | ok u acc1 =>
      obtain ⟨L', ih⟩ := ksubLoop hl hf hone m (i + 1) acc1 [.cells [.bool l[i].fin, shutP 1 (l[i].sup.map encI), .int .i64 l[i].comp.kind, shutP 3 (l[i].comp.ps.map encV), shutP 3 (l[i].comp.rs.map encV), shutP 4 (l[i].comp.fs.map encF)]] K (by omega) hc'
      refine ⟨L ++ L', ?_⟩
      rw [← outK_out hK hc]
      rw [p_entry_each_api_SubType_1110_eq]
      rw [hw] at h1
      simp (contextual := true) (dsimp := false) (disch := omega) only [↓kDown, kUp, ↓goDown, goUp, List.length_cons, List.length_nil, List.map_cons, List.map_nil, List.take_succ_cons, List.take_zero, List.drop_succ_cons, List.drop_zero, List.drop_nil, List.take_nil, List.cons_append, List.nil_append, List.append_nil, List.set_cons_zero, List.set_cons_succ, List.all_cons, List.all_nil, ↓reduceIte, reduceCtorEq, ge_iff_le, gt_iff_lt, eq_self_iff_true, beq_self_eq_true, beq_iff_eq, bne_iff_ne, ne_eq, ite_not, Int.reduceEq, Option.getD_some, Option.getD_none, ite_self, Nat.reduceAdd, Nat.reduceSub, Nat.reduceMul, Nat.reduceLeDiff, Nat.reduceEqDiff, Nat.reduceBEq, Nat.reduceBNe, Int.reduceLT, Int.reduceLE, Int.reduceAdd, Int.reduceSub, Int.reduceMul, Int.reduceNeg, Int.reduceNe, Int.reduceBEq, Int.reduceBNe, Int.reduceToNat, c1, hia, hf, e1, h1, ih, Res.bind, cells_P, isCell_P, low_P, stripC_P, isTup_P, strip_P]
    | err t w =>
      refine ⟨L ++ [.cells [.bool l[i].fin, shutP 1 (l[i].sup.map encI), .int .i64 l[i].comp.kind, shutP 3 (l[i].comp.ps.map encV), shutP 3 (l[i].comp.rs.map encV), shutP 4 (l[i].comp.fs.map encF)]], ?_⟩
      rw [← outK_out hK hc]
      rw [p_entry_each_api_SubType_1110_eq]
      rw [hw] at h1
      simp (contextual := true) (dsimp := false) (disch := omega) only [↓kDown, kUp, ↓goDown, goUp, List.length_cons, List.length_nil, List.map_cons, List.map_nil, List.take_succ_cons, List.take_zero, List.drop_succ_cons, List.drop_zero, List.drop_nil, List.take_nil, List.cons_append, List.nil_append, List.append_nil, List.set_cons_zero, List.set_cons_succ, List.all_cons, List.all_nil, ↓reduceIte, reduceCtorEq, ge_iff_le, gt_iff_lt, eq_self_iff_true, beq_self_eq_true, beq_iff_eq, bne_iff_ne, ne_eq, ite_not, Int.reduceEq, Option.getD_some, Option.getD_none, ite_self, Nat.reduceAdd, Nat.reduceSub, Nat.reduceMul, Nat.reduceLeDiff, Nat.reduceEqDiff, Nat.reduceBEq, Nat.reduceBNe, Int.reduceLT, Int.reduceLE, Int.reduceAdd, Int.reduceSub, Int.reduceMul, Int.reduceNeg, Int.reduceNe, Int.reduceBEq, Int.reduceBNe, Int.reduceToNat, c1, hia, hf, e1, h1, Res.bind, cells_P, isCell_P, low_P, stripC_P, isTup_P, strip_P]
    | no =>
      refine ⟨L, ?_⟩
      rw [p_entry_each_api_SubType_1110_eq]
      rw [hw] at h1
      simp (contextual := true) (dsimp := false) (disch := omega) only [↓kDown, kUp, ↓goDown, goUp, List.length_cons, List.length_nil, List.map_cons, List.map_nil, List.take_succ_cons, List.take_zero, List.drop_succ_cons, List.drop_zero, List.drop_nil, List.take_nil, List.cons_append, List.nil_append, List.append_nil, List.set_cons_zero, List.set_cons_succ, List.all_cons, List.all_nil, ↓reduceIte, reduceCtorEq, ge_iff_le, gt_iff_lt, eq_self_iff_true, beq_self_eq_true, beq_iff_eq, bne_iff_ne, ne_eq, ite_not, Int.reduceEq, Option.getD_some, Option.getD_none, ite_self, Nat.reduceAdd, Nat.reduceSub, Nat.reduceMul, Nat.reduceLeDiff, Nat.reduceEqDiff, Nat.reduceBEq, Nat.reduceBNe, Int.reduceLT, Int.reduceLE, Int.reduceAdd, Int.reduceSub, Int.reduceMul, Int.reduceNeg, Int.reduceNe, Int.reduceBEq, Int.reduceBNe, Int.reduceToNat, c1, hia, hf, e1, h1, Res.bind, cells_P, isCell_P, low_P, stripC_P, isTup_P, strip_P]
theorem ksubEach {one : ST → List UInt8 → KR} {f : PV} {l : List ST} {most : Nat} (hf : strip f = f) (hm : most ≤ 1000000) (hl : l.length < 2 ^ 62) (hone : ∀ (H : Heap) (L : List Box) (acc : List UInt8) (v : ST), v ∈ l → c < List.length H → runK c (callV P C f [.agg [.bool v.fin, shutP 1 (v.sup.map encI), .int .i64 v.comp.kind, shutP 3 (v.comp.ps.map encV), shutP 3 (v.comp.rs.map encV), shutP 4 (v.comp.fs.map encF)]]) (St H c (pB acc) L) = outK c H L pB encU (one v acc)) (hc : c < List.length H) :
    runK c (C k_entry_each_api_SubType [.ptr c 0, shutP 6 (l.map encS), .int .i64 most, f]) (St H c (pB acc) L) = outK c H L pB encU (kEach most one l acc) := liftK (fun H hc => by
  have hu := fun L acc h0 h1 => uK (c := c) (H := H) (L := L) (acc := acc) (n := (l.length : Int)) h0 h1 hc
  rw [entry_each_api_SubType_eq]
  unfold kEach
  by_cases h : most < l.length
  · have c1 : (most : Int) < l.length := by omega
    simp (contextual := true) (dsimp := false) (disch := omega) only [↓kDown, kUp, ↓goDown, goUp, List.length_cons, List.length_nil, List.map_cons, List.map_nil, List.take_succ_cons, List.take_zero, List.drop_succ_cons, List.drop_zero, List.drop_nil, List.take_nil, List.cons_append, List.nil_append, List.append_nil, List.set_cons_zero, List.set_cons_succ, List.all_cons, List.all_nil, ↓reduceIte, reduceCtorEq, ge_iff_le, gt_iff_lt, eq_self_iff_true, beq_self_eq_true, beq_iff_eq, bne_iff_ne, ne_eq, ite_not, Int.reduceEq, Option.getD_some, Option.getD_none, ite_self, Nat.reduceAdd, Nat.reduceSub, Nat.reduceMul, Nat.reduceLeDiff, Nat.reduceEqDiff, Nat.reduceBEq, Nat.reduceBNe, Int.reduceLT, Int.reduceLE, Int.reduceAdd, Int.reduceSub, Int.reduceMul, Int.reduceNeg, Int.reduceNe, Int.reduceBEq, Int.reduceBNe, Int.reduceToNat, if_pos h, strip_P, ln_P, List.length_map, c1]
  · have c1 : ¬ (most : Int) < l.length := by omega
    have hw : IntKind.u64.wrap (l.length : Int) = l.length := by rw [wu]; omega
    have hlp := fun acc => ksubLoop (c := c) hl hf hone l.length 0 acc [] H (by omega) hc
    rw [if_neg h]
    obtain ⟨L1, hlp⟩ := hlp (acc ++ putU l.length)
    have hlp : runK c (p_entry_each_api_SubType_1110 f (shutP 6 (l.map encS)) (.int .i64 l.length) (.int .i64 0)) (St H c (pB (acc ++ putU l.length)) []) = outK c H L1 pB encU (kAll one l (acc ++ putU l.length)) := hlp
    unfold kPut at hu ⊢
    simp (contextual := true) (dsimp := false) (disch := omega) only [↓kDown, kUp, ↓goDown, goUp, List.length_cons, List.length_nil, List.map_cons, List.map_nil, List.take_succ_cons, List.take_zero, List.drop_succ_cons, List.drop_zero, List.drop_nil, List.take_nil, List.cons_append, List.nil_append, List.append_nil, List.set_cons_zero, List.set_cons_succ, List.all_cons, List.all_nil, ↓reduceIte, reduceCtorEq, ge_iff_le, gt_iff_lt, eq_self_iff_true, beq_self_eq_true, beq_iff_eq, bne_iff_ne, ne_eq, ite_not, Int.reduceEq, Option.getD_some, Option.getD_none, ite_self, Nat.reduceAdd, Nat.reduceSub, Nat.reduceMul, Nat.reduceLeDiff, Nat.reduceEqDiff, Nat.reduceBEq, Nat.reduceBNe, Int.reduceLT, Int.reduceLE, Int.reduceAdd, Int.reduceSub, Int.reduceMul, Int.reduceNeg, Int.reduceNe, Int.reduceBEq, Int.reduceBNe, Int.reduceToNat, strip_P, ln_P, List.length_map, c1, p_entry_each_api_SubType_1_eq, hw, hu, hlp, Int.toNat_natCast, hf, encU_is]) hc
end Go.Proofs.Ytofbbijagbpicaa.Pi.Q
namespace Go.Proofs.Ytofbbijagbpicaa.Pi.Q
open Go Go.Proofs.Ytofbbijagbpicaa.Pi
set_option linter.unusedVariables false
set_option linter.unusedSimpArgs false
set_option maxRecDepth 100000
attribute [local congr] ite_congr
variable {c : Nat} {H : Heap} {L : List Box} {acc : List UInt8}
theorem unkill {K H' : Heap} (hc : c < List.length K) (h : hset H' c .dead = St K c .dead []) : ∃ b, H' = St K c b [] := by
  have hl : List.length H' = List.length K := by
    have := congrArg List.length h
    rw [len_set, len_St] at this
    simpa using this
  have hc' : c < List.length H' := by omega
  refine ⟨H'[c], ?_⟩
  have h2 := congrArg (fun K => hset K c (H'[c])) h
  simp only [set_set, set_St hc] at h2
  rw [← h2]
  unfold hset
  exact (List.set_getElem_self hc').symm
theorem run_of_ok {m : M PV} {K K' : Heap} {v : PV} (h : runK c m K = some (.ok v K')) : run m K = some (.ok v K') := by
  unfold runK killR at h
  cases hr : run m K with
  | none => rw [hr] at h; cases h
  | some q => cases q with
    | ok a b => rw [hr] at h; exact h
    | pan a b => rw [hr] at h; simp at h
theorem run_of_pan {m : M PV} {K K' : Heap} {v : PV} (hc : c < List.length K') (h : runK c m K = some (.pan v (St K' c .dead []))) : ∃ b, run m K = some (.pan v (St K' c b [])) := by
  unfold runK killR at h
  cases hr : run m K with
  | none => rw [hr] at h; cases h
  | some q => cases q with
    | ok a b => rw [hr] at h; simp at h
    | pan a b =>
      rw [hr] at h
      simp only [Option.some.injEq, Out.pan.injEq] at h
      obtain ⟨h1, h2⟩ := h
      obtain ⟨b, rfl⟩ := unkill hc h2
      exact ⟨b, by rw [h1]⟩
theorem stripC_B {a : List UInt8} : stripC (accB a) = shutP 1 (bytes a) := stripC_acc
theorem fd1_is {x y : PV} : fd 1 none (.agg [x, y]) = M.pure (stripC y) := rfl
def outW (r : KR) (H : Heap) : Option (Out PV) :=
  match r with
  | .ok _ acc => some (.ok (.tup [shutP 1 (bytes acc), .int .i64 0]) H)
  | .err t [_, w] => if t = y_entry_fault then some (.ok (.tup [.slice false true 0 [], .int .i64 w]) H) else none
  | _ => none
theorem write_is {f : PV} {r : KR} (hf : strip f = f) (hr : ∀ t l, r = .err t l → t = y_entry_fault ∧ ∃ p w, l = [p, w]) (hno : r ≠ .no)
    (h : ∀ (L : List Box) (c : Nat), List.length H ≤ c → c < List.length (hadd H L) → runK c (callV P C f [.ptr c 0]) (St (hadd H L) c (pB []) []) = outK c (hadd H L) [] pB encU r) :
    run (C k_entry_write [f]) H = outW r H := by
  have e0 : ∀ (b b2 b3 : Box), St (hadd H [b2, b3, .dead]) (List.length H + 2) b [] = hadd H [b2, b3, b] := fun b b2 b3 => by
    unfold St hadd hset
    rw [List.append_nil, List.set_append_right _ _ (by omega)]
    simp
  have hh := h [.cells [.slice false true 0 []], .cells [.int .i64 0], .dead] (List.length H + 2) (by omega) (by rw [len_add]; simp)
  rw [e0] at hh
  have hp : pB [] = .cells [.slice false true 0 []] := rfl
  rw [entry_write_eq]
  cases r with
  | ok u acc =>
    simp only [outK, elimK, e0] at hh
    have hh := run_of_ok hh
    rw [hp] at hh
    simp (contextual := true) (dsimp := false) (disch := omega) only [↓goDown, goUp, List.length_cons, List.length_nil, List.map_cons, List.map_nil, List.take_succ_cons, List.take_zero, List.drop_succ_cons, List.drop_zero, List.drop_nil, List.take_nil, List.cons_append, List.nil_append, List.append_nil, List.set_cons_zero, List.set_cons_succ, List.all_cons, List.all_nil, ↓reduceIte, reduceCtorEq, ge_iff_le, gt_iff_lt, eq_self_iff_true, beq_self_eq_true, beq_iff_eq, bne_iff_ne, ne_eq, ite_not, Int.reduceEq, Option.getD_some, Option.getD_none, ite_self, Nat.reduceAdd, Nat.reduceSub, Nat.reduceMul, Nat.reduceLeDiff, Nat.reduceEqDiff, Nat.reduceBEq, Nat.reduceBNe, Int.reduceLT, Int.reduceLE, Int.reduceAdd, Int.reduceSub, Int.reduceMul, Int.reduceNeg, Int.reduceNe, Int.reduceBEq, Int.reduceBNe, Int.reduceToNat, hf, hh, encU_is, isCell_B, cells_B, low_B, isTup_B, entry_write_1_deq, run_mf, run_ta, bi_if, bi_ifn, cutL, ne_len0, Nat.reduceBeqDiff, outW, stripC_B, isTup_P, low_P, stripC_P, cells_P, isCell_P]
  | err t l =>
    obtain ⟨rfl, p, w, rfl⟩ := hr _ _ rfl
    simp only [outK, elimK] at hh
    obtain ⟨b, hh⟩ := run_of_pan (by rw [len_add]; simp) hh
    rw [e0, hp] at hh
    simp (contextual := true) (dsimp := false) (disch := omega) only [↓goDown, goUp, List.length_cons, List.length_nil, List.map_cons, List.map_nil, List.take_succ_cons, List.take_zero, List.drop_succ_cons, List.drop_zero, List.drop_nil, List.take_nil, List.cons_append, List.nil_append, List.append_nil, List.set_cons_zero, List.set_cons_succ, List.all_cons, List.all_nil, ↓reduceIte, reduceCtorEq, ge_iff_le, gt_iff_lt, eq_self_iff_true, beq_self_eq_true, beq_iff_eq, bne_iff_ne, ne_eq, ite_not, Int.reduceEq, Option.getD_some, Option.getD_none, ite_self, Nat.reduceAdd, Nat.reduceSub, Nat.reduceMul, Nat.reduceLeDiff, Nat.reduceEqDiff, Nat.reduceBEq, Nat.reduceBNe, Int.reduceLT, Int.reduceLE, Int.reduceAdd, Int.reduceSub, Int.reduceMul, Int.reduceNeg, Int.reduceNe, Int.reduceBEq, Int.reduceBNe, Int.reduceToNat, hf, hh, fltP_is, entry_write_1_req, run_mf, run_ta, bi_if, bi_ifn, cutL, ne_len0, Nat.reduceBeqDiff, outW, List.map_cons, List.map_nil, fd1_is]
  | no => exact absurd rfl hno
def kRec (v : RT) (acc : List UInt8) : KR :=
  match v.types with
  | [t] => kSub t acc
  | l => (kPut [78] acc).bind fun _ acc => kEach 10000 kSub l acc
theorem recK {v : RT} {j : Nat} (hv : v.fit) (hj : hget H j = some (.cells [shutP 6 (v.types.map encS), .bool v.exp])) (hjc : j < c) (hc : c < List.length H) : runK c (C k_entry_PutRecType_1 [.ptr c 0, .ptr j 0]) (St H c (pB acc) []) = outK c H [] pB encU (kRec v acc) := by
  obtain ⟨a1, a2⟩ := hv
  have hg : ∀ a L, hget (St H c a L) j = some (.cells [shutP 6 (v.types.map encS), .bool v.exp]) := fun a L => by
    unfold St
    rw [get_old1 (by omega), get_set_ne (by omega)]
    exact hj
  have h78 := fun L acc => byteK (c := c) (H := H) (L := L) (acc := acc) (n := 78) (by omega) (by omega) hc
  have hk := fun L acc => ksubEach (c := c) (H := H) (L := L) (acc := acc) (f := .fn k_entry_pen_sub [.ptr c 0] []) (one := kSub) (l := v.types) (most := 10000) rfl (by omega) (by omega) (fun H L acc t ht hc => by rw [callV_fn]; exact subK (a2 t ht) hc) hc
  simp only [Int.cast_ofNat_Int] at hk
  rw [entry_PutRecType_1_eq]
  unfold kRec
  match hv : v.types with
  | [] =>
    rw [hv] at hk hg
    simp only [List.map_cons, List.map_nil] at hk
    have e5 : ¬ ((0 : Nat) : Int) = 1 := by decide
    simp (contextual := true) (dsimp := false) (disch := omega) only [↓kDown, kUp, ↓goDown, goUp, List.length_cons, List.length_nil, List.map_cons, List.map_nil, List.take_succ_cons, List.take_zero, List.drop_succ_cons, List.drop_zero, List.drop_nil, List.take_nil, List.cons_append, List.nil_append, List.append_nil, List.set_cons_zero, List.set_cons_succ, List.all_cons, List.all_nil, ↓reduceIte, reduceCtorEq, ge_iff_le, gt_iff_lt, eq_self_iff_true, beq_self_eq_true, beq_iff_eq, bne_iff_ne, ne_eq, ite_not, Int.reduceEq, Option.getD_some, Option.getD_none, ite_self, Nat.reduceAdd, Nat.reduceSub, Nat.reduceMul, Nat.reduceLeDiff, Nat.reduceEqDiff, Nat.reduceBEq, Nat.reduceBNe, Int.reduceLT, Int.reduceLE, Int.reduceAdd, Int.reduceSub, Int.reduceMul, Int.reduceNeg, Int.reduceNe, Int.reduceBEq, Int.reduceBNe, Int.reduceToNat, hg, ln_P, List.length_map, e5, h78, run_mf, hk, encU_is, cells_P, isCell_P, low_P, stripC_P, isTup_P, strip_P] <;> rfl
  | [t] =>
    rw [hv] at hg
    have ht : t ∈ v.types := by rw [hv]; simp
    have hia : ∀ K, run (iaS 6 (shutP 6 [encS t]) (.int .i64 0)) K = some (.ok (.elem [.bool t.fin, shutP 1 (t.sup.map encI), .int .i64 t.comp.kind, shutP 3 (t.comp.ps.map encV), shutP 3 (t.comp.rs.map encV), shutP 4 (t.comp.fs.map encF)]) K) := fun K => rfl
    have e5 : (((1 : Nat) : Int) = 1) = True := eq_true rfl
    have hs := fun L acc => subK (c := c) (H := H) (L := L) (acc := acc) (a2 t ht) hc
    simp (contextual := true) (dsimp := false) (disch := omega) only [↓kDown, kUp, ↓goDown, goUp, List.length_cons, List.length_nil, List.map_cons, List.map_nil, List.take_succ_cons, List.take_zero, List.drop_succ_cons, List.drop_zero, List.drop_nil, List.take_nil, List.cons_append, List.nil_append, List.append_nil, List.set_cons_zero, List.set_cons_succ, List.all_cons, List.all_nil, ↓reduceIte, reduceCtorEq, ge_iff_le, gt_iff_lt, eq_self_iff_true, beq_self_eq_true, beq_iff_eq, bne_iff_ne, ne_eq, ite_not, Int.reduceEq, Option.getD_some, Option.getD_none, ite_self, Nat.reduceAdd, Nat.reduceSub, Nat.reduceMul, Nat.reduceLeDiff, Nat.reduceEqDiff, Nat.reduceBEq, Nat.reduceBNe, Int.reduceLT, Int.reduceLE, Int.reduceAdd, Int.reduceSub, Int.reduceMul, Int.reduceNeg, Int.reduceNe, Int.reduceBEq, Int.reduceBNe, Int.reduceToNat, hg, ln_P, List.length_map, e5, hia, hs, encU_is, cells_P, isCell_P, low_P, stripC_P, isTup_P, strip_P] <;> rfl
  | t :: u :: r =>
    rw [hv] at hk hg
    simp only [List.map_cons, List.map_nil] at hk
    have e5 : ¬ ((r.length + 1 + 1 : Nat) : Int) = 1 := by omega
    simp (contextual := true) (dsimp := false) (disch := omega) only [↓kDown, kUp, ↓goDown, goUp, List.length_cons, List.length_nil, List.map_cons, List.map_nil, List.take_succ_cons, List.take_zero, List.drop_succ_cons, List.drop_zero, List.drop_nil, List.take_nil, List.cons_append, List.nil_append, List.append_nil, List.set_cons_zero, List.set_cons_succ, List.all_cons, List.all_nil, ↓reduceIte, reduceCtorEq, ge_iff_le, gt_iff_lt, eq_self_iff_true, beq_self_eq_true, beq_iff_eq, bne_iff_ne, ne_eq, ite_not, Int.reduceEq, Option.getD_some, Option.getD_none, ite_self, Nat.reduceAdd, Nat.reduceSub, Nat.reduceMul, Nat.reduceLeDiff, Nat.reduceEqDiff, Nat.reduceBEq, Nat.reduceBNe, Int.reduceLT, Int.reduceLE, Int.reduceAdd, Int.reduceSub, Int.reduceMul, Int.reduceNeg, Int.reduceNe, Int.reduceBEq, Int.reduceBNe, Int.reduceToNat, hg, ln_P, List.length_map, e5, h78, run_mf, hk, encU_is, cells_P, isCell_P, low_P, stripC_P, isTup_P, strip_P] <;> rfl
theorem put_rec {v : RT} (hv : v.fit) (hr : ∀ t l, kRec v [] = .err t l → t = y_entry_fault ∧ ∃ p w, l = [p, w]) (hno : kRec v [] ≠ .no) : run (C k_entry_PutRecType [encR v]) H = outW (kRec v []) H := by
  have hw := write_is (H := hadd H [.cells [shutP 6 (v.types.map encS), .bool v.exp]]) (f := .fn k_entry_PutRecType_1 [] [.ptr (List.length H) 0]) rfl hr hno (fun L c h1 h2 => by
    rw [callV_fn]
    refine recK hv ?_ ?_ h2
    · rw [add_add, get_loc0]; rfl
    · rw [len_add] at h1; simp at h1; omega)
  rw [entry_PutRecType_eq]
  unfold encR
  cases hk : kRec v [] with
  | ok u acc =>
    rw [hk] at hw
    simp only [outW] at hw ⊢
    simp (contextual := true) (dsimp := false) (disch := omega) only [↓goDown, goUp, List.length_cons, List.length_nil, List.map_cons, List.map_nil, List.take_succ_cons, List.take_zero, List.drop_succ_cons, List.drop_zero, List.drop_nil, List.take_nil, List.cons_append, List.nil_append, List.append_nil, List.set_cons_zero, List.set_cons_succ, List.all_cons, List.all_nil, ↓reduceIte, reduceCtorEq, ge_iff_le, gt_iff_lt, eq_self_iff_true, beq_self_eq_true, beq_iff_eq, bne_iff_ne, ne_eq, ite_not, Int.reduceEq, Option.getD_some, Option.getD_none, ite_self, Nat.reduceAdd, Nat.reduceSub, Nat.reduceMul, Nat.reduceLeDiff, Nat.reduceEqDiff, Nat.reduceBEq, Nat.reduceBNe, Int.reduceLT, Int.reduceLE, Int.reduceAdd, Int.reduceSub, Int.reduceMul, Int.reduceNeg, Int.reduceNe, Int.reduceBEq, Int.reduceBNe, Int.reduceToNat, run_mf, hw, cells_P, isCell_P, low_P, stripC_P, isTup_P, strip_P]
  | err t l =>
    obtain ⟨rfl, p, w, rfl⟩ := hr _ _ hk
    rw [hk] at hw
    simp only [outW, if_true] at hw ⊢
    simp (contextual := true) (dsimp := false) (disch := omega) only [↓goDown, goUp, List.length_cons, List.length_nil, List.map_cons, List.map_nil, List.take_succ_cons, List.take_zero, List.drop_succ_cons, List.drop_zero, List.drop_nil, List.take_nil, List.cons_append, List.nil_append, List.append_nil, List.set_cons_zero, List.set_cons_succ, List.all_cons, List.all_nil, ↓reduceIte, reduceCtorEq, ge_iff_le, gt_iff_lt, eq_self_iff_true, beq_self_eq_true, beq_iff_eq, bne_iff_ne, ne_eq, ite_not, Int.reduceEq, Option.getD_some, Option.getD_none, ite_self, Nat.reduceAdd, Nat.reduceSub, Nat.reduceMul, Nat.reduceLeDiff, Nat.reduceEqDiff, Nat.reduceBEq, Nat.reduceBNe, Int.reduceLT, Int.reduceLE, Int.reduceAdd, Int.reduceSub, Int.reduceMul, Int.reduceNeg, Int.reduceNe, Int.reduceBEq, Int.reduceBNe, Int.reduceToNat, run_mf, hw, cells_P, isCell_P, low_P, stripC_P, isTup_P, strip_P]
  | no => exact absurd hk hno
end Go.Proofs.Ytofbbijagbpicaa.Pi.Q
namespace Go.Proofs.Ytofbbijagbpicaa.Pi.Q
open Go Go.Proofs.Ytofbbijagbpicaa.Pi
set_option linter.unusedVariables false
set_option linter.unusedSimpArgs false
def At (b : List UInt8) (p : Nat) (u : List UInt8) : Prop := p ≤ b.length ∧ ∃ y, b.drop p = u ++ y
theorem at_cons {b : List UInt8} {p : Nat} {c : UInt8} {u : List UInt8} (h : At b p (c :: u)) : p < b.length ∧ b.getD p 0 = c ∧ At b (p + 1) u := by
  obtain ⟨h1, y, h2⟩ := h
  have hl : p < b.length := by
    have := congrArg List.length h2
    simp at this
    omega
  have hd := List.drop_eq_getElem_cons hl
  rw [hd, List.cons_append, List.cons.injEq] at h2
  refine ⟨hl, ?_, by omega, y, h2.2⟩
  simp [hl, h2.1]
theorem at_append {b : List UInt8} {p : Nat} {u v : List UInt8} (h : At b p (u ++ v)) : At b p u ∧ At b (p + u.length) v := by
  obtain ⟨h1, y, h2⟩ := h
  have hl : p + (u ++ v).length ≤ b.length := by
    have := congrArg List.length h2
    simp at this
    simp
    omega
  refine ⟨⟨h1, v ++ y, by rw [h2, List.append_assoc]⟩, by simp at hl; omega, y, ?_⟩
  rw [← List.drop_drop, h2, List.append_assoc, List.drop_left]
theorem at_self {u : List UInt8} : At u 0 u := ⟨Nat.zero_le _, [], by simp⟩
theorem ofNat_small {n : Nat} (h : n < 256) : (UInt8.ofNat n).toNat = n := by rw [UInt8.toNat_ofNat', Nat.mod_eq_of_lt h]
theorem pow7 (i : Nat) : 2 ^ (7 * (i + 1)) = 2 ^ (7 * i) * 128 := by rw [Nat.mul_add, Nat.pow_add]
theorem lebU_put {b : List UInt8} {B : Nat} : ∀ (f i n p m : Nat), At b p (putU m) → 7 * i < B → m * 2 ^ (7 * i) < 2 ^ B → m < 128 ^ (f + 1) → lebU b B b.length (f + 1) i n p = .ok (n + m * 2 ^ (7 * i)) (p + (putU m).length)
  | f, i, n, p, m, ha, hi, hm, hf => by
    have hz : ∀ k : Nat, 0 < 2 ^ k := fun k => Nat.pow_pos (by omega)
    rw [putU] at ha ⊢
    unfold lebU
    by_cases h1 : m < 128
    · rw [if_pos h1] at ha ⊢
      obtain ⟨a1, a2, a3⟩ := at_cons ha
      simp only [if_pos a1, a2, ofNat_small (show m < 256 by omega)]
      have h2 : ¬ (B < 7 * i + 7 ∧ m / 2 ^ (B - 7 * i) ≠ 0) := by
        rintro ⟨h3, h4⟩
        apply h4
        apply Nat.div_eq_of_lt
        have e : 2 ^ B = 2 ^ (B - 7 * i) * 2 ^ (7 * i) := by rw [← Nat.pow_add, Nat.sub_add_cancel (by omega)]
        rw [e] at hm
        exact Nat.lt_of_mul_lt_mul_right hm
      rw [if_neg h2, if_pos h1]
      simp
    · rw [if_neg h1] at ha ⊢
      obtain ⟨a1, a2, a3⟩ := at_cons ha
      have hge : 128 * 2 ^ (7 * i) ≤ m * 2 ^ (7 * i) := Nat.mul_le_mul_right _ (by omega)
      have e7 : 128 * 2 ^ (7 * i) = 2 ^ (7 * i + 7) := by rw [Nat.pow_add, Nat.mul_comm]
      have hB : 7 * i + 7 < B := by
        by_cases h : 7 * i + 7 < B
        · exact h
        · have : 2 ^ B ≤ 2 ^ (7 * i + 7) := Nat.pow_le_pow_right (by omega) (by omega)
          omega
      simp only [if_pos a1, a2, ofNat_small (show m % 128 + 128 < 256 by omega)]
      rw [if_neg (by omega), if_neg (by omega)]
      have e1 : (m % 128 + 128) % 128 = m % 128 := by omega
      have hd : m = m % 128 + 128 * (m / 128) := by omega
      have e2 : m / 128 * 2 ^ (7 * (i + 1)) + m % 128 * 2 ^ (7 * i) = m * 2 ^ (7 * i) := by
        rw [pow7]
        conv => rhs; rw [hd, Nat.add_mul]
        rw [Nat.mul_comm (2 ^ (7 * i)) 128, ← Nat.mul_assoc, Nat.mul_comm (m / 128) 128]
        omega
      cases f with
      | zero => simp at hf; omega
      | succ f =>
      rw [e1, lebU_put f (i + 1) (n + m % 128 * 2 ^ (7 * i)) (p + 1) (m / 128) a3 (by omega) (by omega) (by
        have : 128 ^ (f + 1 + 1) = 128 ^ (f + 1) * 128 := Nat.pow_succ ..
        exact Nat.div_lt_of_lt_mul (by omega))]
      simp only [List.length_cons, Rs.ok.injEq]
      omega
theorem rdU_put {b : List UInt8} {B p n : Nat} (ha : At b p (putU n)) (hB : 0 < B) (hB' : B ≤ 64) (hn : n < 2 ^ B) : rdU b B b.length p = .ok n (p + (putU n).length) := by
  have : 2 ^ B ≤ 2 ^ 64 := Nat.pow_le_pow_right (by omega) hB'
  have h := lebU_put (B := B) 9 0 0 p n ha (by omega) (by simpa using hn) (by omega)
  unfold rdU
  simpa using h
theorem rU32_put {b : List UInt8} {p n : Nat} (ha : At b p (putU n)) (hn : n < 2 ^ 32) : rU32 b p = .ok n (p + (putU n).length) := rdU_put ha (by decide) (by decide) hn
theorem lebU_digits {b : List UInt8} {B e : Nat} : ∀ (f i n p v q : Nat), n < 2 ^ (7 * i) → lebU b B e f i n p = .ok v q → ∃ k, q = p + (k + 1) ∧ v < 2 ^ (7 * (i + (k + 1)))
  | 0, i, n, p, v, q, hn, h => by cases h
  | f + 1, i, n, p, v, q, hn, h => by
    unfold lebU at h
    have hp7 := pow7 i
    by_cases h1 : p < e
    · simp only [if_pos h1] at h
      by_cases h2 : B < 7 * i + 7 ∧ (b.getD p 0).toNat / 2 ^ (B - 7 * i) ≠ 0
      · simp only [if_pos h2] at h; cases h
      · simp only [if_neg h2] at h
        generalize hc : (b.getD p 0).toNat = c at *
        by_cases h3 : c < 128
        · simp only [if_pos h3, Rs.ok.injEq] at h
          obtain ⟨rfl, rfl⟩ := h
          refine ⟨0, by omega, ?_⟩
          have h4 : (c + 1) * 2 ^ (7 * i) ≤ 128 * 2 ^ (7 * i) := Nat.mul_le_mul_right _ (by omega)
          rw [Nat.add_mul] at h4
          simp only [Nat.zero_add]
          omega
        · simp only [if_neg h3] at h
          have h5 : c % 128 * 2 ^ (7 * i) ≤ 127 * 2 ^ (7 * i) := Nat.mul_le_mul_right _ (by omega)
          obtain ⟨k, rfl, hk⟩ := lebU_digits f (i + 1) _ (p + 1) v q (by omega) h
          exact ⟨k + 1, by omega, by rwa [show i + (k + 1 + 1) = i + 1 + (k + 1) by omega]⟩
    · simp only [if_neg h1] at h; cases h
theorem pow128 (k : Nat) : 2 ^ (7 * k) = 128 ^ k := by rw [Nat.pow_mul]
theorem rdU_least {b : List UInt8} {B e p q v : Nat} (h : rdU b B e p = .ok v q) : p + (putU v).length ≤ q := by
  obtain ⟨k, rfl, hk⟩ := lebU_digits 10 0 0 p v q (by simp) h
  rw [Nat.zero_add, pow128] at hk
  have := putU_len k v hk
  omega
theorem lebS_put {b : List UInt8} {B : Nat} (hB : B ≤ 64) : ∀ (f i n p : Nat) (m : Int), At b p (putS m) → 7 * i < B → n < 2 ^ (7 * i) → -(2 ^ (B - 7 * i - 1) : Nat) ≤ m → m < (2 ^ (B - 7 * i - 1) : Nat) → -(64 * 128 ^ f) ≤ m → m < 64 * 128 ^ f →
    lebS b B b.length (f + 1) i n p = .ok (IntKind.i64.wrap (n + m * 2 ^ (7 * i))) (p + (putS m).length)
  | f, i, n, p, m, ha, hi, hn, hm, hm', hf, hf' => by
    have hz : ∀ k : Nat, 0 < 2 ^ k := fun k => Nat.pow_pos (by omega)
    rw [putS] at ha ⊢
    unfold lebS
    by_cases h1 : -64 ≤ m ∧ m ≤ 63
    · rw [if_pos h1] at ha ⊢
      obtain ⟨a1, a2, a3⟩ := at_cons ha
      have hlt : (m % 128).toNat < 128 := by omega
      simp only [if_pos a1, a2, ofNat_small (show (m % 128).toNat < 256 by omega)]
      have h2 : ¬ (B < 7 * i + 7 ∧ ¬ okS (B - 7 * i) (m % 128).toNat) := by
        rintro ⟨h3, h4⟩
        apply h4
        unfold okS
        refine ⟨hlt, ?_⟩
        have : B - 7 * i = 1 ∨ B - 7 * i = 2 ∨ B - 7 * i = 3 ∨ B - 7 * i = 4 ∨ B - 7 * i = 5 ∨ B - 7 * i = 6 := by omega
        rcases this with h | h | h | h | h | h <;> rw [h] at hm hm' ⊢ <;> simp at hm hm' ⊢ <;> omega
      rw [if_neg h2, if_pos hlt]
      have h5 : lastS (m % 128).toNat (7 * i) = m * 2 ^ (7 * i) := by
        unfold lastS
        congr 1
        split <;> omega
      rw [h5]
      simp
    · rw [if_neg h1] at ha ⊢
      obtain ⟨a1, a2, a3⟩ := at_cons ha
      have hB7 : 7 * i + 7 < B := by
        by_cases h : 7 * i + 7 < B
        · exact h
        · have : 2 ^ (B - 7 * i - 1) ≤ 2 ^ 6 := Nat.pow_le_pow_right (by omega) (by omega)
          omega
      simp only [if_pos a1, a2, ofNat_small (show (m % 128).toNat + 128 < 256 by omega)]
      rw [if_neg (by omega), if_neg (by omega)]
      have e1 : ((m % 128).toNat + 128) % 128 = (m % 128).toNat := by omega
      cases f with
      | zero => simp at hf hf'; omega
      | succ f =>
      have e3 : 2 ^ (B - 7 * i - 1) = 2 ^ (B - 7 * (i + 1) - 1) * 128 := by
        rw [show B - 7 * i - 1 = (B - 7 * (i + 1) - 1) + 7 by omega, Nat.pow_add]
      have e4 : (128 : Int) ^ (f + 1) = 128 ^ f * 128 := Int.pow_succ ..
      have h5 : (m % 128).toNat * 2 ^ (7 * i) ≤ 127 * 2 ^ (7 * i) := Nat.mul_le_mul_right _ (by omega)
      have hp7 := pow7 i
      rw [e1, lebS_put hB f (i + 1) (n + (m % 128).toNat * 2 ^ (7 * i)) (p + 1) (m / 128) a3 (by omega) (by omega) (by omega) (by omega) (by omega) (by omega)]
      have e5 : (((n + (m % 128).toNat * 2 ^ (7 * i) : Nat) : Int) + m / 128 * 2 ^ (7 * (i + 1))) = n + m * 2 ^ (7 * i) := by
        have h7 : (2 : Int) ^ (7 * (i + 1)) = 2 ^ (7 * i) * 128 := by rw [Nat.mul_add, Int.pow_add]; rfl
        have h8 : (((m % 128).toNat : Nat) : Int) = m % 128 := Int.toNat_of_nonneg (by omega)
        have h9 : m = m % 128 + m / 128 * 128 := by omega
        rw [Int.natCast_add, Int.natCast_mul, h8, h7]
        conv => rhs; rw [h9, Int.add_mul]
        have : ((2 ^ (7 * i) : Nat) : Int) = 2 ^ (7 * i) := by simp
        rw [this, Int.mul_assoc, Int.mul_comm 128 (2 ^ (7 * i)), Int.add_assoc]
        
      rw [e5]
      simp only [List.length_cons, Rs.ok.injEq, true_and]
      omega
theorem rdS_put {b : List UInt8} {B p : Nat} {n : Int} (ha : At b p (putS n)) (hB : 0 < B) (hB' : B ≤ 64) (hn : -(2 ^ (B - 1) : Nat) ≤ n) (hn' : n < (2 ^ (B - 1) : Nat)) : rdS b B b.length p = .ok n (p + (putS n).length) := by
  have : 2 ^ (B - 1) ≤ 2 ^ 63 := Nat.pow_le_pow_right (by omega) (by omega)
  have h := lebS_put hB' 9 0 0 p n ha (by omega) (by simp) (by simpa using hn) (by simpa using hn') (by omega) (by omega)
  have hw : IntKind.i64.wrap n = n := by rw [wi]; omega
  unfold rdS
  rw [h]
  simp [hw]
theorem lebS_digits {b : List UInt8} {B e : Nat} (hB : B ≤ 64) (hB7 : B % 7 ≠ 0) : ∀ (f i n p : Nat) (v : Int) (q : Nat), 7 * i < B → n < 2 ^ (7 * i) → lebS b B e f i n p = .ok v q → ∃ k, q = p + (k + 1) ∧ -(64 * 2 ^ (7 * (i + k)) : Nat) ≤ v ∧ v < (64 * 2 ^ (7 * (i + k)) : Nat)
  | 0, i, n, p, v, q, hi, hn, h => by cases h
  | f + 1, i, n, p, v, q, hi, hn, h => by
    unfold lebS at h
    have hp7 := pow7 i
    by_cases h1 : p < e
    · simp only [if_pos h1] at h
      by_cases h2 : B < 7 * i + 7 ∧ ¬ okS (B - 7 * i) (b.getD p 0).toNat
      · simp only [if_pos h2] at h; cases h
      · simp only [if_neg h2] at h
        generalize hc : (b.getD p 0).toNat = c at *
        by_cases h3 : c < 128
        · simp only [if_pos h3, Rs.ok.injEq] at h
          obtain ⟨rfl, rfl⟩ := h
          refine ⟨0, by omega, ?_⟩
          generalize hd : (if c < 64 then (c : Int) else (c : Int) - 128) = d
          have hd1 : -64 ≤ d ∧ d ≤ 63 := by rw [← hd]; split <;> omega
          have hz : (0 : Int) < 2 ^ (7 * i) := Int.pow_pos (by omega)
          have l1 : d * 2 ^ (7 * i) ≤ 63 * 2 ^ (7 * i) := Int.mul_le_mul_of_nonneg_right (by omega) (by omega)
          have l2 : -64 * 2 ^ (7 * i) ≤ d * 2 ^ (7 * i) := Int.mul_le_mul_of_nonneg_right (by omega) (by omega)
          have en : ((2 ^ (7 * i) : Nat) : Int) = 2 ^ (7 * i) := by simp
          have hls : lastS c (7 * i) = d * 2 ^ (7 * i) := by unfold lastS; rw [hd]
          have hw : IntKind.i64.wrap (n + lastS c (7 * i)) = n + d * 2 ^ (7 * i) := by
            rw [hls, wi]
            by_cases h5 : B < 7 * i + 7
            · have ho : okS (B - 7 * i) c := by
                by_cases ho : okS (B - 7 * i) c
                · exact ho
                · exact absurd ⟨h5, ho⟩ h2
              obtain ⟨o1, o2⟩ := ho
              have k : B - 7 * i = 1 ∨ B - 7 * i = 2 ∨ B - 7 * i = 3 ∨ B - 7 * i = 4 ∨ B - 7 * i = 5 ∨ B - 7 * i = 6 := by omega
              have d2 : -(2 ^ (B - 7 * i - 1) : Nat) ≤ d ∧ d < (2 ^ (B - 7 * i - 1) : Nat) := by
                rcases k with h | h | h | h | h | h <;> rw [h] at o2 ⊢ <;> simp at o2 ⊢ <;> rw [← hd] <;> split <;> omega
              have e6 : 2 ^ (B - 1) = 2 ^ (B - 7 * i - 1) * 2 ^ (7 * i) := by rw [← Nat.pow_add]; congr 1; omega
              have e7 : (2 : Nat) ^ (B - 1) ≤ 2 ^ 63 := Nat.pow_le_pow_right (by omega) (by omega)
              have m1 : (d + 1) * 2 ^ (7 * i) ≤ ((2 ^ (B - 7 * i - 1) : Nat) : Int) * 2 ^ (7 * i) := Int.mul_le_mul_of_nonneg_right (by omega) (by omega)
              have m2 : -((2 ^ (B - 7 * i - 1) : Nat) : Int) * 2 ^ (7 * i) ≤ d * 2 ^ (7 * i) := Int.mul_le_mul_of_nonneg_right (by omega) (by omega)
              have e8 : ((2 ^ (B - 7 * i - 1) : Nat) : Int) * 2 ^ (7 * i) = ((2 ^ (B - 1) : Nat) : Int) := by rw [e6, Int.natCast_mul, en]
              rw [Int.add_mul] at m1
              rw [Int.neg_mul, e8] at m2
              rw [e8] at m1
              omega
            · have : 2 ^ (7 * i) ≤ 2 ^ 57 := Nat.pow_le_pow_right (by omega) (by omega)
              omega
          rw [hw]
          simp only [Nat.add_zero]
          omega
        · simp only [if_neg h3] at h
          have h5 : c % 128 * 2 ^ (7 * i) ≤ 127 * 2 ^ (7 * i) := Nat.mul_le_mul_right _ (by omega)
          have hlt : 7 * (i + 1) < B := by
            by_cases hh : 7 * (i + 1) < B
            · exact hh
            · exfalso
              by_cases h6 : B < 7 * i + 7
              · have ho : okS (B - 7 * i) c := by
                  by_cases ho : okS (B - 7 * i) c
                  · exact ho
                  · exact absurd ⟨h6, ho⟩ h2
                exact h3 ho.1
              · omega
          obtain ⟨k, rfl, hk⟩ := lebS_digits hB hB7 f (i + 1) _ (p + 1) v q hlt (by omega) h
          exact ⟨k + 1, by omega, by rwa [show i + (k + 1) = i + 1 + k by omega]⟩
    · simp only [if_neg h1] at h; cases h
theorem rdS_least {b : List UInt8} {B e p q : Nat} {v : Int} (hB : B ≤ 64) (hB7 : B % 7 ≠ 0) (h : rdS b B e p = .ok v q) : p + (putS v).length ≤ q := by
  obtain ⟨k, rfl, hk, hk'⟩ := lebS_digits hB hB7 10 0 0 p v q (by omega) (by simp) h
  rw [Nat.zero_add, pow128] at hk hk'
  have e : ((64 * 128 ^ k : Nat) : Int) = 64 * 128 ^ k := by simp
  have := putS_len k v (by omega) (by omega)
  omega
end Go.Proofs.Ytofbbijagbpicaa.Pi.Q
