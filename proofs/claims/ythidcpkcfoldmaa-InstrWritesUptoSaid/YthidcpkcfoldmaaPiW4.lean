/- What the law rests on, part 5 of 6: a reading of the program's code over told data, and what it comes to. -/
import Derived.Test.YthidcpkcfoldmaaPiW3
namespace Go.Proofs.Ythidcpkcfoldmaa.Pi.Q
open Go Go.Proofs.Ythidcpkcfoldmaa.Pi
set_option linter.unusedVariables false
set_option linter.unusedSimpArgs false
set_option maxRecDepth 100000
attribute [local congr] ite_congr
def wordP : List UInt8 → Nat → Nat → Nat → Nat × Nat
  | [], n, f, p => (f, p)
  | c :: r, n, f, p => if c = 32 then (match n with | 0 => (f, p) | n + 1 => wordP r n (p + 1) (p + 1)) else wordP r n f (p + 1)
def wordR : List UInt8 → Nat → Nat → Nat → Option (Nat × Nat)
  | [], n, f, p => (match n with | 0 => some (f, p) | n + 1 => none)
  | c :: r, n, f, p => if c = 32 then (match n with | 0 => some (f, p) | n + 1 => wordR r n (p + 1) (p + 1)) else wordR r n f (p + 1)
def strP (s : ByteArray) (n : Nat) : ByteArray := s.extract (wordP s.data.toList n 0 0).1 (wordP s.data.toList n 0 0).2
def strR (s : ByteArray) (n : Nat) : Option ByteArray := (wordR s.data.toList n 0 0).map fun w => s.extract w.1 w.2
def plainS (s : ByteArray) : Bool := s.data.toList.all fun c => decide (c.toNat < 128)
theorem decode_plain {s : ByteArray} {p : Nat} {c : UInt8} (h : s.data.toList[p]? = some c) (hc : c.toNat < 128) : Utf8.decode s p = (c.toNat, 1) := by
  have hp : p < s.data.size := by
    have := (List.getElem?_eq_some_iff.mp h).1
    simpa using this
  have e : s.get! p = c := by
    have := (List.getElem?_eq_some_iff.mp h).2
    show s.data[p]! = c
    rw [getElem!_pos s.data p hp]
    simpa using this
  unfold Utf8.decode
  simp only [Nat.add_zero, e, if_pos hc]
theorem size_is {s : ByteArray} : s.size = s.data.toList.length := Array.length_toList.symm
attribute [local irreducible] Utf8.decode
theorem run_rg' {s : ByteArray} {H : Heap} : run (rg (.str s)) H = some (.ok (.ptr H.length 0) (hadd H [.iter s 0])) := nrfl rfl
def nxB (id : Nat) (H : Heap) : Option Box → Option (Out PV)
  | some (.iter s pos) => bif decide (pos < s.size) then some (.ok (.tup [.bool true, .int .i64 pos, .int .i32 (Utf8.decode s pos).1]) (hset H id (.iter s (pos + (Utf8.decode s pos).2)))) else some (.ok (.tup [.bool false]) H)
  | _ => none
theorem run_nx {id : Nat} {H : Heap} : run (nx (.ptr id 0)) H = nxB id H (hget H id) := by
  unfold run nx nxB
  rfl
theorem nxB_iter {id : Nat} {H : Heap} {s : ByteArray} {p : Nat} : nxB id H (some (.iter s p)) = if p < s.size then some (.ok (.tup [.bool true, .int .i64 p, .int .i32 (Utf8.decode s p).1]) (hset H id (.iter s (p + (Utf8.decode s p).2)))) else some (.ok (.tup [.bool false]) H) := by
  show (bif decide (p < s.size) then _ else _) = _
  by_cases h : p < s.size
  · rw [decide_eq_true h, if_pos h]; rfl
  · rw [decide_eq_false h, if_neg h]; rfl
theorem run_nx0 {s : ByteArray} {H : Heap} {L : List Box} {p : Nat} (hp : p < s.size) : run (nx (.ptr H.length 0)) (hadd H (.iter s p :: L)) = some (.ok (.tup [.bool true, .int .i64 p, .int .i32 (Utf8.decode s p).1]) (hadd H (.iter s (p + (Utf8.decode s p).2) :: L))) := by
  rw [run_nx, get_loc0, nth_zero, nxB_iter, if_pos hp, set_loc0]
  rfl
theorem run_nx1 {s : ByteArray} {H : Heap} {L : List Box} {p : Nat} (hp : ¬ p < s.size) : run (nx (.ptr H.length 0)) (hadd H (.iter s p :: L)) = some (.ok (.tup [.bool false]) (hadd H (.iter s p :: L))) := by
  rw [run_nx, get_loc0, nth_zero, nxB_iter, if_neg hp]
theorem run_slS {s : ByteArray} {a b : Nat} {H : Heap} (h1 : a ≤ b) (h2 : b ≤ s.size) : run (slS (.str s) (some (.int .i64 a)) (some (.int .i64 b))) H = some (.ok (.str (s.extract a b)) H) := by
  unfold run slS bnd
  simp [h1, h2]
  rfl
theorem run_slS1 {s : ByteArray} {a : Nat} {H : Heap} (h1 : a ≤ s.size) : run (slS (.str s) (some (.int .i64 a)) none) H = some (.ok (.str (s.extract a s.size)) H) := by
  unfold run slS bnd
  simp [h1]
  rfl
theorem ixS_at {s : ByteArray} {p : Nat} {c : UInt8} {H : Heap} (h : s.data.toList[p]? = some c) : run (ixS (.str s) (.int .i64 p)) H = some (.ok (.int .u8 c.toNat) H) := by
  unfold run ixS
  simp only [Int.toNat_natCast, h]
  simp
  rfl
theorem nth_loop {s : ByteArray} {H : Heap} {v4 : PV} (hlen : s.size < 2 ^ 62) : ∀ (l : List UInt8) (n f p : Nat), (∀ k, s.data.toList[p + k]? = l[k]?) → (∀ c ∈ l, c.toNat < 128) → f ≤ p → p + l.length = s.size → n < 2 ^ 62 →
    ∃ q, run (p_instr_nth_11010 (.str s) (.int .i64 n) v4 (.int .i64 f) (.ptr H.length 0)) (hadd H [.iter s p]) = some (.ok (.str (s.extract (wordP l n f p).1 (wordP l n f p).2)) (hadd H [.iter s q]))
  | [], n, f, p, hk, ha, hf, hp, hn => by
    have h1 : ¬ p < s.size := by simp at hp; omega
    have e : p = s.size := by simpa using hp
    have hx := run_nx1 (H := H) (L := []) h1
    have hs := fun K => run_slS1 (H := K) (s := s) (a := f) (by omega)
    refine ⟨p, ?_⟩
    rw [p_instr_nth_11010_eq]
    simp (contextual := true) (dsimp := false) (disch := omega) only [↓goDown, goUp, List.length_cons, List.length_nil, List.map_cons, List.map_nil, List.take_succ_cons, List.take_zero, List.drop_succ_cons, List.drop_zero, List.drop_nil, List.take_nil, List.cons_append, List.nil_append, List.append_nil, List.set_cons_zero, List.set_cons_succ, List.all_cons, List.all_nil, ↓reduceIte, reduceCtorEq, ge_iff_le, gt_iff_lt, eq_self_iff_true, beq_self_eq_true, beq_iff_eq, bne_iff_ne, ne_eq, ite_not, Int.reduceEq, Option.getD_some, Option.getD_none, ite_self, Nat.reduceAdd, Nat.reduceSub, Nat.reduceMul, Nat.reduceLeDiff, Nat.reduceEqDiff, Nat.reduceBEq, Nat.reduceBNe, Int.reduceLT, Int.reduceLE, Int.reduceAdd, Int.reduceSub, Int.reduceMul, Int.reduceNeg, Int.reduceNe, Int.reduceBEq, Int.reduceBNe, Int.reduceToNat, hx, hs, wordP]
    rw [e]
  | c :: r, n, f, p, hk, ha, hf, hp, hn => by
    have h1 : p < s.size := by simp at hp; omega
    have hc : s.data.toList[p]? = some c := by simpa using hk 0
    have hd := decode_plain hc (ha c (by simp))
    have hx := run_nx0 (H := H) (L := []) h1
    rw [hd] at hx
    have e1 : ((p : Nat) : Int) + 1 = ((p + 1 : Nat) : Int) := by omega
    have hr : ∀ k, s.data.toList[p + 1 + k]? = r[k]? := fun k => by
      have := hk (k + 1)
      rw [show p + (k + 1) = p + 1 + k by omega] at this
      simpa using this
    by_cases h32 : c = 32
    · subst h32
      have c1 : ((((32 : UInt8).toNat : Nat) : Int) = 32) = True := eq_true rfl
      cases n with
      | zero =>
        have hs := fun K => run_slS (H := K) (s := s) (a := f) (b := p) hf (by omega)
        refine ⟨p + 1, ?_⟩
        rw [p_instr_nth_11010_eq]
        simp (contextual := true) (dsimp := false) (disch := omega) only [↓goDown, goUp, List.length_cons, List.length_nil, List.map_cons, List.map_nil, List.take_succ_cons, List.take_zero, List.drop_succ_cons, List.drop_zero, List.drop_nil, List.take_nil, List.cons_append, List.nil_append, List.append_nil, List.set_cons_zero, List.set_cons_succ, List.all_cons, List.all_nil, ↓reduceIte, reduceCtorEq, ge_iff_le, gt_iff_lt, eq_self_iff_true, beq_self_eq_true, beq_iff_eq, bne_iff_ne, ne_eq, ite_not, Int.reduceEq, Option.getD_some, Option.getD_none, ite_self, Nat.reduceAdd, Nat.reduceSub, Nat.reduceMul, Nat.reduceLeDiff, Nat.reduceEqDiff, Nat.reduceBEq, Nat.reduceBNe, Int.reduceLT, Int.reduceLE, Int.reduceAdd, Int.reduceSub, Int.reduceMul, Int.reduceNeg, Int.reduceNe, Int.reduceBEq, Int.reduceBNe, Int.reduceToNat, hx, hs, c1, wordP, Int.natCast_zero, Int.cast_ofNat_Int]
      | succ n =>
        obtain ⟨q, ih⟩ := nth_loop (H := H) (v4 := v4) hlen r n (p + 1) (p + 1) hr (fun c hc => ha c (by simp [hc])) (Nat.le_refl _) (by simp at hp; omega) (by omega)
        have e2 : ((n + 1 : Nat) : Int) - 1 = (n : Int) := by omega
        have c2 : (((n + 1 : Nat) : Int) = 0) = False := by simp; omega
        refine ⟨q, ?_⟩
        rw [p_instr_nth_11010_eq]
        simp (contextual := true) (dsimp := false) (disch := omega) only [↓goDown, goUp, List.length_cons, List.length_nil, List.map_cons, List.map_nil, List.take_succ_cons, List.take_zero, List.drop_succ_cons, List.drop_zero, List.drop_nil, List.take_nil, List.cons_append, List.nil_append, List.append_nil, List.set_cons_zero, List.set_cons_succ, List.all_cons, List.all_nil, ↓reduceIte, reduceCtorEq, ge_iff_le, gt_iff_lt, eq_self_iff_true, beq_self_eq_true, beq_iff_eq, bne_iff_ne, ne_eq, ite_not, Int.reduceEq, Option.getD_some, Option.getD_none, ite_self, Nat.reduceAdd, Nat.reduceSub, Nat.reduceMul, Nat.reduceLeDiff, Nat.reduceEqDiff, Nat.reduceBEq, Nat.reduceBNe, Int.reduceLT, Int.reduceLE, Int.reduceAdd, Int.reduceSub, Int.reduceMul, Int.reduceNeg, Int.reduceNe, Int.reduceBEq, Int.reduceBNe, Int.reduceToNat, hx, c1, c2, e1, e2, ih, wordP]
    · have c1 : (((c.toNat : Nat) : Int) = 32) = False := by
        refine eq_false fun h => h32 ?_
        exact UInt8.toNat_inj.mp (by have : c.toNat = 32 := by omega
                                     rw [this]; rfl)
      obtain ⟨q, ih⟩ := nth_loop (H := H) (v4 := v4) hlen r n f (p + 1) hr (fun c hc => ha c (by simp [hc])) (by omega) (by simp at hp; omega) hn
      refine ⟨q, ?_⟩
      rw [p_instr_nth_11010_eq]
      simp (contextual := true) (dsimp := false) (disch := omega) only [↓goDown, goUp, List.length_cons, List.length_nil, List.map_cons, List.map_nil, List.take_succ_cons, List.take_zero, List.drop_succ_cons, List.drop_zero, List.drop_nil, List.take_nil, List.cons_append, List.nil_append, List.append_nil, List.set_cons_zero, List.set_cons_succ, List.all_cons, List.all_nil, ↓reduceIte, reduceCtorEq, ge_iff_le, gt_iff_lt, eq_self_iff_true, beq_self_eq_true, beq_iff_eq, bne_iff_ne, ne_eq, ite_not, Int.reduceEq, Option.getD_some, Option.getD_none, ite_self, Nat.reduceAdd, Nat.reduceSub, Nat.reduceMul, Nat.reduceLeDiff, Nat.reduceEqDiff, Nat.reduceBEq, Nat.reduceBNe, Int.reduceLT, Int.reduceLE, Int.reduceAdd, Int.reduceSub, Int.reduceMul, Int.reduceNeg, Int.reduceNe, Int.reduceBEq, Int.reduceBNe, Int.reduceToNat, hx, c1, ih, wordP, h32]
theorem nth_is' {s : ByteArray} {n : Nat} {H : Heap} (hlen : s.size < 2 ^ 62) (ha : plainS s = true) (hn : n < 2 ^ 62) : run (C k_instr_nth [.str s, .int .i64 n]) H = some (.ok (.str (strP s n)) H) := by
  obtain ⟨q, h⟩ := nth_loop (s := s) (H := H) (v4 := .str ⟨#[]⟩) hlen s.data.toList n 0 0 (fun k => by rw [Nat.zero_add]) (fun c hc => by
    have := List.all_eq_true.mp ha c hc
    simpa using this) (Nat.le_refl _) (by rw [size_is]; simp) hn
  have e0 : ((0 : Nat) : Int) = 0 := rfl
  rw [e0] at h
  rw [instr_nth_eq]
  simp (contextual := true) (dsimp := false) (disch := omega) only [↓goDown, goUp, List.length_cons, List.length_nil, List.map_cons, List.map_nil, List.take_succ_cons, List.take_zero, List.drop_succ_cons, List.drop_zero, List.drop_nil, List.take_nil, List.cons_append, List.nil_append, List.append_nil, List.set_cons_zero, List.set_cons_succ, List.all_cons, List.all_nil, ↓reduceIte, reduceCtorEq, ge_iff_le, gt_iff_lt, eq_self_iff_true, beq_self_eq_true, beq_iff_eq, bne_iff_ne, ne_eq, ite_not, Int.reduceEq, Option.getD_some, Option.getD_none, ite_self, Nat.reduceAdd, Nat.reduceSub, Nat.reduceMul, Nat.reduceLeDiff, Nat.reduceEqDiff, Nat.reduceBEq, Nat.reduceBNe, Int.reduceLT, Int.reduceLE, Int.reduceAdd, Int.reduceSub, Int.reduceMul, Int.reduceNeg, Int.reduceNe, Int.reduceBEq, Int.reduceBNe, Int.reduceToNat, run_rg', h]
  rfl
theorem rnth_loop {s : ByteArray} {H : Heap} {v4 v5 : PV} (hlen : s.size < 2 ^ 62) : ∀ (l : List UInt8) (n f p : Nat), (∀ k, s.data.toList[p + k]? = l[k]?) → f ≤ p → p + l.length = s.size → n < 2 ^ 62 →
    run (p_ratchetref09_nth_11010 (.str s) (.int .i64 n) v4 v5 (.int .i64 f) (.int .i64 p)) H = some (.ok (match wordR l n f p with | some w => .tup [.str (s.extract w.1 w.2), .bool true] | none => .tup [.str ⟨#[]⟩, .bool false]) H)
  | [], n, f, p, hk, hf, hp, hn => by
    have e : p = s.size := by simpa using hp
    have hs := fun K => run_slS (H := K) (s := s) (a := f) (b := p) hf (by omega)
    have e1 : ((p : Nat) : Int) + 1 = ((p + 1 : Nat) : Int) := by omega
    have l1 : (((p : Nat) : Int) ≤ (s.size : Int)) = True := eq_true (by omega)
    have l2 : (((p : Nat) : Int) < (s.size : Int)) = False := eq_false (by omega)
    cases n with
    | zero =>
      rw [p_ratchetref09_nth_11010_eq]
      simp (contextual := true) (dsimp := false) (disch := omega) only [↓goDown, goUp, List.length_cons, List.length_nil, List.map_cons, List.map_nil, List.take_succ_cons, List.take_zero, List.drop_succ_cons, List.drop_zero, List.drop_nil, List.take_nil, List.cons_append, List.nil_append, List.append_nil, List.set_cons_zero, List.set_cons_succ, List.all_cons, List.all_nil, ↓reduceIte, reduceCtorEq, ge_iff_le, gt_iff_lt, eq_self_iff_true, beq_self_eq_true, beq_iff_eq, bne_iff_ne, ne_eq, ite_not, Int.reduceEq, Option.getD_some, Option.getD_none, ite_self, Nat.reduceAdd, Nat.reduceSub, Nat.reduceMul, Nat.reduceLeDiff, Nat.reduceEqDiff, Nat.reduceBEq, Nat.reduceBNe, Int.reduceLT, Int.reduceLE, Int.reduceAdd, Int.reduceSub, Int.reduceMul, Int.reduceNeg, Int.reduceNe, Int.reduceBEq, Int.reduceBNe, Int.reduceToNat, lnS_str, l1, l2, hs, wordR, Int.natCast_zero, Int.cast_ofNat_Int]
    | succ n =>
      have c2 : (((n + 1 : Nat) : Int) = 0) = False := by simp; omega
      have e2 : ((n + 1 : Nat) : Int) - 1 = (n : Int) := by omega
      have l4 : (((p + 1 : Nat) : Int) ≤ (s.size : Int)) = False := eq_false (by omega)
      rw [p_ratchetref09_nth_11010_eq]
      simp (contextual := true) (dsimp := false) (disch := omega) only [↓goDown, goUp, List.length_cons, List.length_nil, List.map_cons, List.map_nil, List.take_succ_cons, List.take_zero, List.drop_succ_cons, List.drop_zero, List.drop_nil, List.take_nil, List.cons_append, List.nil_append, List.append_nil, List.set_cons_zero, List.set_cons_succ, List.all_cons, List.all_nil, ↓reduceIte, reduceCtorEq, ge_iff_le, gt_iff_lt, eq_self_iff_true, beq_self_eq_true, beq_iff_eq, bne_iff_ne, ne_eq, ite_not, Int.reduceEq, Option.getD_some, Option.getD_none, ite_self, Nat.reduceAdd, Nat.reduceSub, Nat.reduceMul, Nat.reduceLeDiff, Nat.reduceEqDiff, Nat.reduceBEq, Nat.reduceBNe, Int.reduceLT, Int.reduceLE, Int.reduceAdd, Int.reduceSub, Int.reduceMul, Int.reduceNeg, Int.reduceNe, Int.reduceBEq, Int.reduceBNe, Int.reduceToNat, lnS_str, l1, l2, e1, e2, c2, wordR, p_ratchetref09_nth_11010011_eq]
      rw [p_ratchetref09_nth_11010_eq]
      simp (contextual := true) (dsimp := false) (disch := omega) only [↓goDown, goUp, List.length_cons, List.length_nil, List.map_cons, List.map_nil, List.take_succ_cons, List.take_zero, List.drop_succ_cons, List.drop_zero, List.drop_nil, List.take_nil, List.cons_append, List.nil_append, List.append_nil, List.set_cons_zero, List.set_cons_succ, List.all_cons, List.all_nil, ↓reduceIte, reduceCtorEq, ge_iff_le, gt_iff_lt, eq_self_iff_true, beq_self_eq_true, beq_iff_eq, bne_iff_ne, ne_eq, ite_not, Int.reduceEq, Option.getD_some, Option.getD_none, ite_self, Nat.reduceAdd, Nat.reduceSub, Nat.reduceMul, Nat.reduceLeDiff, Nat.reduceEqDiff, Nat.reduceBEq, Nat.reduceBNe, Int.reduceLT, Int.reduceLE, Int.reduceAdd, Int.reduceSub, Int.reduceMul, Int.reduceNeg, Int.reduceNe, Int.reduceBEq, Int.reduceBNe, Int.reduceToNat, lnS_str, l4]
  | c :: r, n, f, p, hk, hf, hp, hn => by
    have h1 : p < s.size := by simp at hp; omega
    have hc : s.data.toList[p]? = some c := by simpa using hk 0
    have hx := fun K => ixS_at (H := K) hc
    have e1 : ((p : Nat) : Int) + 1 = ((p + 1 : Nat) : Int) := by omega
    have l1 : (((p : Nat) : Int) ≤ (s.size : Int)) = True := eq_true (by omega)
    have l2 : (((p : Nat) : Int) < (s.size : Int)) = True := eq_true (by omega)
    have hr : ∀ k, s.data.toList[p + 1 + k]? = r[k]? := fun k => by
      have := hk (k + 1)
      rw [show p + (k + 1) = p + 1 + k by omega] at this
      simpa using this
    by_cases h32 : c = 32
    · subst h32
      have c1 : ((((32 : UInt8).toNat : Nat) : Int) = 32) = True := eq_true rfl
      cases n with
      | zero =>
        have hs := fun K => run_slS (H := K) (s := s) (a := f) (b := p) hf (by omega)
        rw [p_ratchetref09_nth_11010_eq]
        simp (contextual := true) (dsimp := false) (disch := omega) only [↓goDown, goUp, List.length_cons, List.length_nil, List.map_cons, List.map_nil, List.take_succ_cons, List.take_zero, List.drop_succ_cons, List.drop_zero, List.drop_nil, List.take_nil, List.cons_append, List.nil_append, List.append_nil, List.set_cons_zero, List.set_cons_succ, List.all_cons, List.all_nil, ↓reduceIte, reduceCtorEq, ge_iff_le, gt_iff_lt, eq_self_iff_true, beq_self_eq_true, beq_iff_eq, bne_iff_ne, ne_eq, ite_not, Int.reduceEq, Option.getD_some, Option.getD_none, ite_self, Nat.reduceAdd, Nat.reduceSub, Nat.reduceMul, Nat.reduceLeDiff, Nat.reduceEqDiff, Nat.reduceBEq, Nat.reduceBNe, Int.reduceLT, Int.reduceLE, Int.reduceAdd, Int.reduceSub, Int.reduceMul, Int.reduceNeg, Int.reduceNe, Int.reduceBEq, Int.reduceBNe, Int.reduceToNat, lnS_str, l1, l2, hx, hs, c1, wordR, Int.natCast_zero, Int.cast_ofNat_Int]
      | succ n =>
        have ih := rnth_loop (H := H) (v4 := v4) (v5 := v5) hlen r n (p + 1) (p + 1) hr (Nat.le_refl _) (by simp at hp; omega) (by omega)
        have e2 : ((n + 1 : Nat) : Int) - 1 = (n : Int) := by omega
        have c2 : (((n + 1 : Nat) : Int) = 0) = False := by simp; omega
        rw [p_ratchetref09_nth_11010_eq]
        simp (contextual := true) (dsimp := false) (disch := omega) only [↓goDown, goUp, List.length_cons, List.length_nil, List.map_cons, List.map_nil, List.take_succ_cons, List.take_zero, List.drop_succ_cons, List.drop_zero, List.drop_nil, List.take_nil, List.cons_append, List.nil_append, List.append_nil, List.set_cons_zero, List.set_cons_succ, List.all_cons, List.all_nil, ↓reduceIte, reduceCtorEq, ge_iff_le, gt_iff_lt, eq_self_iff_true, beq_self_eq_true, beq_iff_eq, bne_iff_ne, ne_eq, ite_not, Int.reduceEq, Option.getD_some, Option.getD_none, ite_self, Nat.reduceAdd, Nat.reduceSub, Nat.reduceMul, Nat.reduceLeDiff, Nat.reduceEqDiff, Nat.reduceBEq, Nat.reduceBNe, Int.reduceLT, Int.reduceLE, Int.reduceAdd, Int.reduceSub, Int.reduceMul, Int.reduceNeg, Int.reduceNe, Int.reduceBEq, Int.reduceBNe, Int.reduceToNat, lnS_str, l1, l2, hx, c1, c2, e1, e2, ih, wordR, p_ratchetref09_nth_11010011_eq]
    · have c1 : (((c.toNat : Nat) : Int) = 32) = False := by
        refine eq_false fun h => h32 ?_
        exact UInt8.toNat_inj.mp (by have : c.toNat = 32 := by omega
                                     rw [this]; rfl)
      have ih := rnth_loop (H := H) (v4 := v4) (v5 := v5) hlen r n f (p + 1) hr (by omega) (by simp at hp; omega) hn
      rw [p_ratchetref09_nth_11010_eq]
      simp (contextual := true) (dsimp := false) (disch := omega) only [↓goDown, goUp, List.length_cons, List.length_nil, List.map_cons, List.map_nil, List.take_succ_cons, List.take_zero, List.drop_succ_cons, List.drop_zero, List.drop_nil, List.take_nil, List.cons_append, List.nil_append, List.append_nil, List.set_cons_zero, List.set_cons_succ, List.all_cons, List.all_nil, ↓reduceIte, reduceCtorEq, ge_iff_le, gt_iff_lt, eq_self_iff_true, beq_self_eq_true, beq_iff_eq, bne_iff_ne, ne_eq, ite_not, Int.reduceEq, Option.getD_some, Option.getD_none, ite_self, Nat.reduceAdd, Nat.reduceSub, Nat.reduceMul, Nat.reduceLeDiff, Nat.reduceEqDiff, Nat.reduceBEq, Nat.reduceBNe, Int.reduceLT, Int.reduceLE, Int.reduceAdd, Int.reduceSub, Int.reduceMul, Int.reduceNeg, Int.reduceNe, Int.reduceBEq, Int.reduceBNe, Int.reduceToNat, lnS_str, l1, l2, hx, c1, e1, ih, wordR, h32, p_ratchetref09_nth_11010011_eq]
theorem rnth_is {s : ByteArray} {n : Nat} {H : Heap} (hlen : s.size < 2 ^ 62) (hn : n < 2 ^ 62) : run (C k_ratchetref09_nth [.str s, .int .i64 n]) H = some (.ok (match strR s n with | some w => .tup [.str w, .bool true] | none => .tup [.str ⟨#[]⟩, .bool false]) H) := by
  have h := rnth_loop (s := s) (H := H) (v4 := .str ⟨#[]⟩) (v5 := .bool false) hlen s.data.toList n 0 0 (fun k => by rw [Nat.zero_add]) (Nat.le_refl _) (by rw [size_is]; simp) hn
  have e0 : ((0 : Nat) : Int) = 0 := rfl
  rw [e0] at h
  rw [ratchetref09_nth_eq]
  unfold strR
  cases hw : wordR s.data.toList n 0 0 <;> rw [hw] at h <;>
    simp (contextual := true) (dsimp := false) (disch := omega) only [↓goDown, goUp, List.length_cons, List.length_nil, List.map_cons, List.map_nil, List.take_succ_cons, List.take_zero, List.drop_succ_cons, List.drop_zero, List.drop_nil, List.take_nil, List.cons_append, List.nil_append, List.append_nil, List.set_cons_zero, List.set_cons_succ, List.all_cons, List.all_nil, ↓reduceIte, reduceCtorEq, ge_iff_le, gt_iff_lt, eq_self_iff_true, beq_self_eq_true, beq_iff_eq, bne_iff_ne, ne_eq, ite_not, Int.reduceEq, Option.getD_some, Option.getD_none, ite_self, Nat.reduceAdd, Nat.reduceSub, Nat.reduceMul, Nat.reduceLeDiff, Nat.reduceEqDiff, Nat.reduceBEq, Nat.reduceBNe, Int.reduceLT, Int.reduceLE, Int.reduceAdd, Int.reduceSub, Int.reduceMul, Int.reduceNeg, Int.reduceNe, Int.reduceBEq, Int.reduceBNe, Int.reduceToNat, h, Option.map_some, Option.map_none]
end Go.Proofs.Ythidcpkcfoldmaa.Pi.Q
namespace Go.Proofs.Ythidcpkcfoldmaa.Pi.Q
open Go Go.Proofs.Ythidcpkcfoldmaa.Pi
set_option linter.unusedVariables false
set_option linter.unusedSimpArgs false
set_option maxRecDepth 100000
attribute [local congr] ite_congr
theorem run_cat {a b : ByteArray} {ek : EqK} {H : Heap} (h : a.size + b.size < 2 ^ 62) : run (bi .add ek (.str a) (.str b)) H = some (.ok (.str (a ++ b)) H) := by
  show (bif decide (((a.size + b.size : Nat) : Int) ≤ IntKind.i64.max) then M.pure (PV.str (a ++ b)) else M.fail) H = _
  rw [decide_eq_true (by rw [show IntKind.i64.max = 9223372036854775807 from rfl]; omega)]
  rfl
theorem extract_le {s : ByteArray} {a b : Nat} : (s.extract a b).size ≤ s.size := by
  rw [ByteArray.size_extract]
  omega
theorem nth_end {x : Box} : ∀ L : List Box, nth (L ++ [x]) L.length = some x
  | [] => rfl
  | a :: L => nth_end L
theorem set_end {x y : Box} : ∀ L : List Box, (L ++ [x]).set L.length y = L ++ [y]
  | [] => rfl
  | a :: L => congrArg (a :: ·) (set_end L)
def okP (r : PRow) : Prop := 0 ≤ r.first ∧ r.first < 1048576 ∧ 0 ≤ r.many ∧ r.many ≤ 32 ∧ plainS r.names = true ∧ r.names.size < 1048576 ∧ r.head.size < 1048576
instance (r : PRow) : Decidable (okP r) := by unfold okP; infer_instance
def pickP (op : Int) : List PRow → Int × ByteArray × Int
  | [] => (0, ⟨#[]⟩, 0)
  | r :: l => if r.first ≤ op ∧ op < r.first + r.many then (op, r.head ++ strP r.names (op - r.first).toNat, r.form) else pickP op l
def encK (v : Int × ByteArray × Int) : PV := .agg [.int .i64 v.1, .str v.2.1, .int .i64 v.2.2]
theorem pstep {α : Type} {l rs : List α} {i : Nat} {r : α} (h : ∀ k, rs[i + k]? = (r :: l)[k]?) (k : Nat) : rs[i + 1 + k]? = l[k]? := by
  have := h (k + 1)
  rw [show i + (k + 1) = i + 1 + k by omega] at this
  simpa using this
theorem within_loop {op : Int} {rs : List PRow} {H : Heap} (h1 : -9223372036854775808 ≤ op) (h2 : op ≤ 9223372036854775807) (hrs : rs.length < 1048576) : ∀ (l : List PRow) (i : Nat), (∀ k, rs[i + k]? = l[k]?) → (∀ r ∈ l, okP r) → i + l.length = rs.length → ∀ (L : List Box),
    ∃ L', run (p_instr_within_1010 (.int .i64 op) (.ptr H.length 0) (.slice false false 5 (rs.map PRow.enc)) (.int .i64 rs.length) (.int .i64 i)) (hadd H (.cells [.int .i64 0, .str ⟨#[]⟩, .int .i64 0] :: L)) = some (.ok (encK (pickP op l)) (hadd H L'))
  | [], i, hk, ha, hi, L => by
    have c1 : (((i : Nat) : Int) < (rs.length : Int)) = False := eq_false (by simp at hi; omega)
    refine ⟨.cells [.int .i64 0, .str ⟨#[]⟩, .int .i64 0] :: L, ?_⟩
    rw [p_instr_within_1010_eq]
    simp (contextual := true) (dsimp := false) (disch := omega) only [↓goDown, goUp, List.length_cons, List.length_nil, List.map_cons, List.map_nil, List.take_succ_cons, List.take_zero, List.drop_succ_cons, List.drop_zero, List.drop_nil, List.take_nil, List.cons_append, List.nil_append, List.append_nil, List.set_cons_zero, List.set_cons_succ, List.all_cons, List.all_nil, ↓reduceIte, reduceCtorEq, ge_iff_le, gt_iff_lt, eq_self_iff_true, beq_self_eq_true, beq_iff_eq, bne_iff_ne, ne_eq, ite_not, Int.reduceEq, Option.getD_some, Option.getD_none, ite_self, Nat.reduceAdd, Nat.reduceSub, Nat.reduceMul, Nat.reduceLeDiff, Nat.reduceEqDiff, Nat.reduceBEq, Nat.reduceBNe, Int.reduceLT, Int.reduceLE, Int.reduceAdd, Int.reduceSub, Int.reduceMul, Int.reduceNeg, Int.reduceNe, Int.reduceBEq, Int.reduceBNe, Int.reduceToNat, c1, pickP, encK]
  | r :: l, i, hk, ha, hi, L => by
    have c1 : (((i : Nat) : Int) < (rs.length : Int)) = True := eq_true (by simp at hi; omega)
    obtain ⟨o1, o2, o3, o4, o5, o6, o7⟩ := ha r (by simp)
    have hr : rs[i]? = some r := by simpa using hk 0
    have hx : ∀ K, run (iaS 5 (.slice false false 5 (rs.map PRow.enc)) (.int .i64 i)) K = some (.ok (.elem [.int .i64 r.first, .int .i64 r.many, .str r.head, .str r.names, .int .i64 r.form]) K) := fun K => by
      rw [run_iaS (by omega), Int.toNat_natCast, List.getElem?_map, hr]
      rfl
    have e1 : ((i : Nat) : Int) + 1 = ((i + 1 : Nat) : Int) := by omega
    obtain ⟨first, many, head, names, form⟩ := r
    simp only at o1 o2 o3 o4 o5 o6 o7 hx
    unfold pickP
    simp only
    by_cases c2 : first ≤ op
    · by_cases c3 : op < first + many
      · have hn := fun K => nth_is' (s := names) (n := (op - first).toNat) (H := K) (by omega) o5 (by omega)
        rw [show (((op - first).toNat : Nat) : Int) = op - first by omega] at hn
        have hcat := fun K => run_cat (a := head) (b := strP names (op - first).toNat) (ek := .none) (H := K) (by
          have := extract_le (s := names) (a := (wordP names.data.toList (op - first).toNat 0 0).1) (b := (wordP names.data.toList (op - first).toNat 0 0).2)
          unfold strP
          omega)
        rw [if_pos ⟨c2, c3⟩]
        refine ⟨.cells [.int .i64 op, .str (head ++ strP names (op - first).toNat), .int .i64 form] :: (L ++ [.cells [.int .i64 first, .int .i64 many, .str head, .str names, .int .i64 form]]), ?_⟩
        rw [p_instr_within_1010_eq]
        simp (contextual := true) (dsimp := false) (disch := omega) only [↓goDown, goUp, List.length_cons, List.length_nil, List.map_cons, List.map_nil, List.take_succ_cons, List.take_zero, List.drop_succ_cons, List.drop_zero, List.drop_nil, List.take_nil, List.cons_append, List.nil_append, List.append_nil, List.set_cons_zero, List.set_cons_succ, List.all_cons, List.all_nil, ↓reduceIte, reduceCtorEq, ge_iff_le, gt_iff_lt, eq_self_iff_true, beq_self_eq_true, beq_iff_eq, bne_iff_ne, ne_eq, ite_not, Int.reduceEq, Option.getD_some, Option.getD_none, ite_self, Nat.reduceAdd, Nat.reduceSub, Nat.reduceMul, Nat.reduceLeDiff, Nat.reduceEqDiff, Nat.reduceBEq, Nat.reduceBNe, Int.reduceLT, Int.reduceLE, Int.reduceAdd, Int.reduceSub, Int.reduceMul, Int.reduceNeg, Int.reduceNe, Int.reduceBEq, Int.reduceBNe, Int.reduceToNat, nth_end, set_end, c1, hx, eq_true c2, eq_true c3, hn, hcat, encK]
      · obtain ⟨L', ih⟩ := within_loop (H := H) h1 h2 hrs l (i + 1) (pstep hk) (fun r hr => ha r (by simp [hr])) (by simp at hi; omega) (L ++ [.cells [.int .i64 first, .int .i64 many, .str head, .str names, .int .i64 form]])
        rw [if_neg (fun h => c3 h.2)]
        refine ⟨L', ?_⟩
        rw [p_instr_within_1010_eq]
        simp (contextual := true) (dsimp := false) (disch := omega) only [↓goDown, goUp, List.length_cons, List.length_nil, List.map_cons, List.map_nil, List.take_succ_cons, List.take_zero, List.drop_succ_cons, List.drop_zero, List.drop_nil, List.take_nil, List.cons_append, List.nil_append, List.append_nil, List.set_cons_zero, List.set_cons_succ, List.all_cons, List.all_nil, ↓reduceIte, reduceCtorEq, ge_iff_le, gt_iff_lt, eq_self_iff_true, beq_self_eq_true, beq_iff_eq, bne_iff_ne, ne_eq, ite_not, Int.reduceEq, Option.getD_some, Option.getD_none, ite_self, Nat.reduceAdd, Nat.reduceSub, Nat.reduceMul, Nat.reduceLeDiff, Nat.reduceEqDiff, Nat.reduceBEq, Nat.reduceBNe, Int.reduceLT, Int.reduceLE, Int.reduceAdd, Int.reduceSub, Int.reduceMul, Int.reduceNeg, Int.reduceNe, Int.reduceBEq, Int.reduceBNe, Int.reduceToNat, nth_end, set_end, c1, hx, eq_true c2, c3, e1, ih]
    · obtain ⟨L', ih⟩ := within_loop (H := H) h1 h2 hrs l (i + 1) (pstep hk) (fun r hr => ha r (by simp [hr])) (by simp at hi; omega) (L ++ [.cells [.int .i64 first, .int .i64 many, .str head, .str names, .int .i64 form]])
      rw [if_neg (fun h => c2 h.1)]
      refine ⟨L', ?_⟩
      rw [p_instr_within_1010_eq]
      simp (contextual := true) (dsimp := false) (disch := omega) only [↓goDown, goUp, List.length_cons, List.length_nil, List.map_cons, List.map_nil, List.take_succ_cons, List.take_zero, List.drop_succ_cons, List.drop_zero, List.drop_nil, List.take_nil, List.cons_append, List.nil_append, List.append_nil, List.set_cons_zero, List.set_cons_succ, List.all_cons, List.all_nil, ↓reduceIte, reduceCtorEq, ge_iff_le, gt_iff_lt, eq_self_iff_true, beq_self_eq_true, beq_iff_eq, bne_iff_ne, ne_eq, ite_not, Int.reduceEq, Option.getD_some, Option.getD_none, ite_self, Nat.reduceAdd, Nat.reduceSub, Nat.reduceMul, Nat.reduceLeDiff, Nat.reduceEqDiff, Nat.reduceBEq, Nat.reduceBNe, Int.reduceLT, Int.reduceLE, Int.reduceAdd, Int.reduceSub, Int.reduceMul, Int.reduceNeg, Int.reduceNe, Int.reduceBEq, Int.reduceBNe, Int.reduceToNat, nth_end, set_end, c1, hx, c2, e1, ih]
theorem within_is {op : Int} {rs : List PRow} {H : Heap} (h1 : -9223372036854775808 ≤ op) (h2 : op ≤ 9223372036854775807) (hrs : rs.length < 1048576) (ha : ∀ r ∈ rs, okP r) : run (C k_instr_within [.slice false false 5 (rs.map PRow.enc), .int .i64 op]) H = some (.ok (encK (pickP op rs)) H) := by
  obtain ⟨L', h⟩ := within_loop (H := H) h1 h2 hrs rs 0 (fun k => by rw [Nat.zero_add]) ha (Nat.zero_add _) []
  have e0 : ((0 : Nat) : Int) = 0 := rfl
  rw [e0] at h
  rw [instr_within_eq]
  unfold encK at h ⊢
  simp (contextual := true) (dsimp := false) (disch := omega) only [↓goDown, goUp, List.length_cons, List.length_nil, List.map_cons, List.map_nil, List.take_succ_cons, List.take_zero, List.drop_succ_cons, List.drop_zero, List.drop_nil, List.take_nil, List.cons_append, List.nil_append, List.append_nil, List.set_cons_zero, List.set_cons_succ, List.all_cons, List.all_nil, ↓reduceIte, reduceCtorEq, ge_iff_le, gt_iff_lt, eq_self_iff_true, beq_self_eq_true, beq_iff_eq, bne_iff_ne, ne_eq, ite_not, Int.reduceEq, Option.getD_some, Option.getD_none, ite_self, Nat.reduceAdd, Nat.reduceSub, Nat.reduceMul, Nat.reduceLeDiff, Nat.reduceEqDiff, Nat.reduceBEq, Nat.reduceBNe, Int.reduceLT, Int.reduceLE, Int.reduceAdd, Int.reduceSub, Int.reduceMul, Int.reduceNeg, Int.reduceNe, Int.reduceBEq, Int.reduceBNe, Int.reduceToNat, h, List.length_map]
theorem numP_ok : ∀ r ∈ numP, okP r := by decide +kernel
theorem othP_ok : ∀ r ∈ othP, okP r := by decide +kernel
def opP (op : Int) : Int × ByteArray × Int := if 0 ≤ op ∧ op ≤ 196 then pickP op numP else pickP op othP
theorem find_is {op : Int} {H : Heap} (h1 : -9223372036854775808 ≤ op) (h2 : op ≤ 9223372036854775807) : run (C k_instr_find [.int .i64 op]) H = some (.ok (encK (opP op)) H) := by
  have w1 := fun K => within_is (rs := numP) (H := K) h1 h2 (by decide) numP_ok
  have w2 := fun K => within_is (rs := othP) (H := K) h1 h2 (by decide) othP_ok
  have n1 := fun K => numP_is (H := K)
  have n2 := fun K => othP_is (H := K)
  rw [instr_find_eq]
  unfold opP
  by_cases c1 : 0 ≤ op
  · by_cases c2 : op ≤ 196
    · rw [if_pos ⟨c1, c2⟩]
      unfold encK at w1 ⊢
      simp (contextual := true) (dsimp := false) (disch := omega) only [↓goDown, goUp, List.length_cons, List.length_nil, List.map_cons, List.map_nil, List.take_succ_cons, List.take_zero, List.drop_succ_cons, List.drop_zero, List.drop_nil, List.take_nil, List.cons_append, List.nil_append, List.append_nil, List.set_cons_zero, List.set_cons_succ, List.all_cons, List.all_nil, ↓reduceIte, reduceCtorEq, ge_iff_le, gt_iff_lt, eq_self_iff_true, beq_self_eq_true, beq_iff_eq, bne_iff_ne, ne_eq, ite_not, Int.reduceEq, Option.getD_some, Option.getD_none, ite_self, Nat.reduceAdd, Nat.reduceSub, Nat.reduceMul, Nat.reduceLeDiff, Nat.reduceEqDiff, Nat.reduceBEq, Nat.reduceBNe, Int.reduceLT, Int.reduceLE, Int.reduceAdd, Int.reduceSub, Int.reduceMul, Int.reduceNeg, Int.reduceNe, Int.reduceBEq, Int.reduceBNe, Int.reduceToNat, eq_true c1, eq_true c2, n1, w1]
    · rw [if_neg (fun h => c2 h.2)]
      unfold encK at w2 ⊢
      simp (contextual := true) (dsimp := false) (disch := omega) only [↓goDown, goUp, List.length_cons, List.length_nil, List.map_cons, List.map_nil, List.take_succ_cons, List.take_zero, List.drop_succ_cons, List.drop_zero, List.drop_nil, List.take_nil, List.cons_append, List.nil_append, List.append_nil, List.set_cons_zero, List.set_cons_succ, List.all_cons, List.all_nil, ↓reduceIte, reduceCtorEq, ge_iff_le, gt_iff_lt, eq_self_iff_true, beq_self_eq_true, beq_iff_eq, bne_iff_ne, ne_eq, ite_not, Int.reduceEq, Option.getD_some, Option.getD_none, ite_self, Nat.reduceAdd, Nat.reduceSub, Nat.reduceMul, Nat.reduceLeDiff, Nat.reduceEqDiff, Nat.reduceBEq, Nat.reduceBNe, Int.reduceLT, Int.reduceLE, Int.reduceAdd, Int.reduceSub, Int.reduceMul, Int.reduceNeg, Int.reduceNe, Int.reduceBEq, Int.reduceBNe, Int.reduceToNat, eq_true c1, c2, n2, w2]
  · rw [if_neg (fun h => c1 h.1)]
    unfold encK at w2 ⊢
    simp (contextual := true) (dsimp := false) (disch := omega) only [↓goDown, goUp, List.length_cons, List.length_nil, List.map_cons, List.map_nil, List.take_succ_cons, List.take_zero, List.drop_succ_cons, List.drop_zero, List.drop_nil, List.take_nil, List.cons_append, List.nil_append, List.append_nil, List.set_cons_zero, List.set_cons_succ, List.all_cons, List.all_nil, ↓reduceIte, reduceCtorEq, ge_iff_le, gt_iff_lt, eq_self_iff_true, beq_self_eq_true, beq_iff_eq, bne_iff_ne, ne_eq, ite_not, Int.reduceEq, Option.getD_some, Option.getD_none, ite_self, Nat.reduceAdd, Nat.reduceSub, Nat.reduceMul, Nat.reduceLeDiff, Nat.reduceEqDiff, Nat.reduceBEq, Nat.reduceBNe, Int.reduceLT, Int.reduceLE, Int.reduceAdd, Int.reduceSub, Int.reduceMul, Int.reduceNeg, Int.reduceNe, Int.reduceBEq, Int.reduceBNe, Int.reduceToNat, c1, n2, w2]
def okR (r : RRow) : Prop := 0 ≤ r.first ∧ r.first < 1048576 ∧ r.names.size < 1048576 ∧ r.head.size < 1048576
instance (r : RRow) : Decidable (okR r) := by unfold okR; infer_instance
def pickR (op : Int) : List RRow → Option (RRow × ByteArray)
  | [] => none
  | r :: l => if r.first ≤ op ∧ op < r.first + 32 then (match strR r.names (op - r.first).toNat with | some w => some (r, r.head ++ w) | none => pickR op l) else pickR op l
def encQ : Option (RRow × ByteArray) → PV
  | some (r, w) => .tup [.agg [.int .i64 r.first, .str r.head, .str r.names, .str r.form], .str w, .bool true]
  | none => .tup [.agg [.int .i64 0, .str ⟨#[]⟩, .str ⟨#[]⟩, .str ⟨#[]⟩], .str ⟨#[]⟩, .bool false]
theorem strR_le {s w : ByteArray} {n : Nat} (h : strR s n = some w) : w.size ≤ s.size := by
  unfold strR at h
  cases hw : wordR s.data.toList n 0 0 with
  | none => rw [hw] at h; cases h
  | some q => rw [hw] at h; cases h; exact extract_le
theorem rfind_loop {op : Int} {rs : List RRow} {H : Heap} (h1 : -9223372036854775808 ≤ op) (h2 : op ≤ 9223372036854775807) (hrs : rs.length < 1048576) : ∀ (l : List RRow) (i : Nat), (∀ k, rs[i + k]? = l[k]?) → (∀ r ∈ l, okR r) → i + l.length = rs.length →
    ∃ x, run (p_ratchetref09_find_111010 (.int .i64 op) (.ptr H.length 0) (.str ⟨#[]⟩) (.bool false) (.slice true false 4 (rs.map RRow.enc)) (.int .i64 i)) (hadd H [.cells [.int .i64 0, .str ⟨#[]⟩, .str ⟨#[]⟩, .str ⟨#[]⟩]]) = some (.ok (encQ (pickR op l)) (hadd H [x]))
  | [], i, hk, ha, hi => by
    have c1 : (((i : Nat) : Int) < (rs.length : Int)) = False := eq_false (by simp at hi; omega)
    refine ⟨.cells [.int .i64 0, .str ⟨#[]⟩, .str ⟨#[]⟩, .str ⟨#[]⟩], ?_⟩
    rw [p_ratchetref09_find_111010_eq]
    simp (contextual := true) (dsimp := false) (disch := omega) only [↓goDown, goUp, List.length_cons, List.length_nil, List.map_cons, List.map_nil, List.take_succ_cons, List.take_zero, List.drop_succ_cons, List.drop_zero, List.drop_nil, List.take_nil, List.cons_append, List.nil_append, List.append_nil, List.set_cons_zero, List.set_cons_succ, List.all_cons, List.all_nil, ↓reduceIte, reduceCtorEq, ge_iff_le, gt_iff_lt, eq_self_iff_true, beq_self_eq_true, beq_iff_eq, bne_iff_ne, ne_eq, ite_not, Int.reduceEq, Option.getD_some, Option.getD_none, ite_self, Nat.reduceAdd, Nat.reduceSub, Nat.reduceMul, Nat.reduceLeDiff, Nat.reduceEqDiff, Nat.reduceBEq, Nat.reduceBNe, Int.reduceLT, Int.reduceLE, Int.reduceAdd, Int.reduceSub, Int.reduceMul, Int.reduceNeg, Int.reduceNe, Int.reduceBEq, Int.reduceBNe, Int.reduceToNat, c1, List.length_map, pickR, encQ]
  | r :: l, i, hk, ha, hi => by
    have c1 : (((i : Nat) : Int) < (rs.length : Int)) = True := eq_true (by simp at hi; omega)
    obtain ⟨o1, o2, o3, o4⟩ := ha r (by simp)
    have hr : rs[i]? = some r := by simpa using hk 0
    have hx : ∀ K, run (iaS 4 (.slice false false 4 (rs.map RRow.enc)) (.int .i64 i)) K = some (.ok (.elem [.int .i64 r.first, .str r.head, .str r.names, .str r.form]) K) := fun K => by
      rw [run_iaS (by omega), Int.toNat_natCast, List.getElem?_map, hr]
      rfl
    have e1 : ((i : Nat) : Int) + 1 = ((i + 1 : Nat) : Int) := by omega
    obtain ⟨first, head, names, form⟩ := r
    simp only at o1 o2 o3 o4 hx
    obtain ⟨x, ih⟩ := rfind_loop (H := H) h1 h2 hrs l (i + 1) (pstep hk) (fun r hr => ha r (by simp [hr])) (by simp at hi; omega)
    unfold pickR
    simp only
    by_cases c2 : first ≤ op
    · by_cases c3 : op < first + 32
      · have hn := fun K => rnth_is (s := names) (n := (op - first).toNat) (H := K) (by omega) (by omega)
        rw [show (((op - first).toNat : Nat) : Int) = op - first by omega] at hn
        have c2' : (op < first) = False := eq_false (by omega)
        have c3' : (first + 32 ≤ op) = False := eq_false (by omega)
        rw [if_pos ⟨c2, c3⟩]
        cases hw : strR names (op - first).toNat with
        | none =>
          rw [hw] at hn
          refine ⟨x, ?_⟩
          rw [p_ratchetref09_find_111010_eq]
          simp (contextual := true) (dsimp := false) (disch := omega) only [↓goDown, goUp, List.length_cons, List.length_nil, List.map_cons, List.map_nil, List.take_succ_cons, List.take_zero, List.drop_succ_cons, List.drop_zero, List.drop_nil, List.take_nil, List.cons_append, List.nil_append, List.append_nil, List.set_cons_zero, List.set_cons_succ, List.all_cons, List.all_nil, ↓reduceIte, reduceCtorEq, ge_iff_le, gt_iff_lt, eq_self_iff_true, beq_self_eq_true, beq_iff_eq, bne_iff_ne, ne_eq, ite_not, Int.reduceEq, Option.getD_some, Option.getD_none, ite_self, Nat.reduceAdd, Nat.reduceSub, Nat.reduceMul, Nat.reduceLeDiff, Nat.reduceEqDiff, Nat.reduceBEq, Nat.reduceBNe, Int.reduceLT, Int.reduceLE, Int.reduceAdd, Int.reduceSub, Int.reduceMul, Int.reduceNeg, Int.reduceNe, Int.reduceBEq, Int.reduceBNe, Int.reduceToNat, c1, hx, List.length_map, c2', c3', hn, p_ratchetref09_find_111010011_eq, e1, ih]
        | some w =>
          rw [hw] at hn
          have hcat := fun K => run_cat (a := head) (b := w) (ek := .none) (H := K) (by
            have := strR_le hw
            omega)
          refine ⟨.cells [.int .i64 first, .str head, .str names, .str form], ?_⟩
          rw [p_ratchetref09_find_111010_eq]
          simp (contextual := true) (dsimp := false) (disch := omega) only [↓goDown, goUp, List.length_cons, List.length_nil, List.map_cons, List.map_nil, List.take_succ_cons, List.take_zero, List.drop_succ_cons, List.drop_zero, List.drop_nil, List.take_nil, List.cons_append, List.nil_append, List.append_nil, List.set_cons_zero, List.set_cons_succ, List.all_cons, List.all_nil, ↓reduceIte, reduceCtorEq, ge_iff_le, gt_iff_lt, eq_self_iff_true, beq_self_eq_true, beq_iff_eq, bne_iff_ne, ne_eq, ite_not, Int.reduceEq, Option.getD_some, Option.getD_none, ite_self, Nat.reduceAdd, Nat.reduceSub, Nat.reduceMul, Nat.reduceLeDiff, Nat.reduceEqDiff, Nat.reduceBEq, Nat.reduceBNe, Int.reduceLT, Int.reduceLE, Int.reduceAdd, Int.reduceSub, Int.reduceMul, Int.reduceNeg, Int.reduceNe, Int.reduceBEq, Int.reduceBNe, Int.reduceToNat, c1, hx, List.length_map, c2', c3', hn, hcat, encQ]
      · have c2' : (op < first) = False := eq_false (by omega)
        have c3' : (first + 32 ≤ op) = True := eq_true (by omega)
        rw [if_neg (fun h => c3 h.2)]
        refine ⟨x, ?_⟩
        rw [p_ratchetref09_find_111010_eq]
        simp (contextual := true) (dsimp := false) (disch := omega) only [↓goDown, goUp, List.length_cons, List.length_nil, List.map_cons, List.map_nil, List.take_succ_cons, List.take_zero, List.drop_succ_cons, List.drop_zero, List.drop_nil, List.take_nil, List.cons_append, List.nil_append, List.append_nil, List.set_cons_zero, List.set_cons_succ, List.all_cons, List.all_nil, ↓reduceIte, reduceCtorEq, ge_iff_le, gt_iff_lt, eq_self_iff_true, beq_self_eq_true, beq_iff_eq, bne_iff_ne, ne_eq, ite_not, Int.reduceEq, Option.getD_some, Option.getD_none, ite_self, Nat.reduceAdd, Nat.reduceSub, Nat.reduceMul, Nat.reduceLeDiff, Nat.reduceEqDiff, Nat.reduceBEq, Nat.reduceBNe, Int.reduceLT, Int.reduceLE, Int.reduceAdd, Int.reduceSub, Int.reduceMul, Int.reduceNeg, Int.reduceNe, Int.reduceBEq, Int.reduceBNe, Int.reduceToNat, c1, hx, List.length_map, c2', c3', p_ratchetref09_find_111010011_eq, e1, ih]
    · have c2' : (op < first) = True := eq_true (by omega)
      rw [if_neg (fun h => c2 h.1)]
      refine ⟨x, ?_⟩
      rw [p_ratchetref09_find_111010_eq]
      simp (contextual := true) (dsimp := false) (disch := omega) only [↓goDown, goUp, List.length_cons, List.length_nil, List.map_cons, List.map_nil, List.take_succ_cons, List.take_zero, List.drop_succ_cons, List.drop_zero, List.drop_nil, List.take_nil, List.cons_append, List.nil_append, List.append_nil, List.set_cons_zero, List.set_cons_succ, List.all_cons, List.all_nil, ↓reduceIte, reduceCtorEq, ge_iff_le, gt_iff_lt, eq_self_iff_true, beq_self_eq_true, beq_iff_eq, bne_iff_ne, ne_eq, ite_not, Int.reduceEq, Option.getD_some, Option.getD_none, ite_self, Nat.reduceAdd, Nat.reduceSub, Nat.reduceMul, Nat.reduceLeDiff, Nat.reduceEqDiff, Nat.reduceBEq, Nat.reduceBNe, Int.reduceLT, Int.reduceLE, Int.reduceAdd, Int.reduceSub, Int.reduceMul, Int.reduceNeg, Int.reduceNe, Int.reduceBEq, Int.reduceBNe, Int.reduceToNat, c1, hx, List.length_map, c2', p_ratchetref09_find_111010011_eq, e1, ih]
theorem tabR_ok : ∀ r ∈ tabR, okR r := by decide +kernel
theorem refR_ok : ∀ r ∈ refR, okR r := by decide +kernel
def opR (op : Int) : Option (RRow × ByteArray) := if 208 ≤ op then pickR op refR else pickR op tabR
theorem rfind_is {op : Int} {H : Heap} (h1 : -9223372036854775808 ≤ op) (h2 : op ≤ 9223372036854775807) : run (C k_ratchetref09_find [.int .i64 op]) H = some (.ok (encQ (opR op)) H) := by
  obtain ⟨x, w1⟩ := rfind_loop (rs := tabR) (H := H) h1 h2 (by decide) tabR 0 (fun k => by rw [Nat.zero_add]) tabR_ok (Nat.zero_add _)
  obtain ⟨y, w2⟩ := rfind_loop (rs := refR) (H := H) h1 h2 (by decide) refR 0 (fun k => by rw [Nat.zero_add]) refR_ok (Nat.zero_add _)
  have e0 : ((0 : Nat) : Int) = 0 := rfl
  rw [e0] at w1 w2
  have n1 := fun K => tabR_is (H := K)
  have n2 := fun K => refR_is (H := K)
  rw [ratchetref09_find_eq]
  unfold opR
  by_cases c1 : 208 ≤ op
  · rw [if_pos c1]
    cases hp : pickR op refR <;> rw [hp] at w2 <;> unfold encQ at w2 ⊢ <;>
    simp (contextual := true) (dsimp := false) (disch := omega) only [↓goDown, goUp, List.length_cons, List.length_nil, List.map_cons, List.map_nil, List.take_succ_cons, List.take_zero, List.drop_succ_cons, List.drop_zero, List.drop_nil, List.take_nil, List.cons_append, List.nil_append, List.append_nil, List.set_cons_zero, List.set_cons_succ, List.all_cons, List.all_nil, ↓reduceIte, reduceCtorEq, ge_iff_le, gt_iff_lt, eq_self_iff_true, beq_self_eq_true, beq_iff_eq, bne_iff_ne, ne_eq, ite_not, Int.reduceEq, Option.getD_some, Option.getD_none, ite_self, Nat.reduceAdd, Nat.reduceSub, Nat.reduceMul, Nat.reduceLeDiff, Nat.reduceEqDiff, Nat.reduceBEq, Nat.reduceBNe, Int.reduceLT, Int.reduceLE, Int.reduceAdd, Int.reduceSub, Int.reduceMul, Int.reduceNeg, Int.reduceNe, Int.reduceBEq, Int.reduceBNe, Int.reduceToNat, eq_true c1, n1, n2, p_ratchetref09_find_111_eq, w2]
  · rw [if_neg c1]
    cases hp : pickR op tabR <;> rw [hp] at w1 <;> unfold encQ at w1 ⊢ <;>
    simp (contextual := true) (dsimp := false) (disch := omega) only [↓goDown, goUp, List.length_cons, List.length_nil, List.map_cons, List.map_nil, List.take_succ_cons, List.take_zero, List.drop_succ_cons, List.drop_zero, List.drop_nil, List.take_nil, List.cons_append, List.nil_append, List.append_nil, List.set_cons_zero, List.set_cons_succ, List.all_cons, List.all_nil, ↓reduceIte, reduceCtorEq, ge_iff_le, gt_iff_lt, eq_self_iff_true, beq_self_eq_true, beq_iff_eq, bne_iff_ne, ne_eq, ite_not, Int.reduceEq, Option.getD_some, Option.getD_none, ite_self, Nat.reduceAdd, Nat.reduceSub, Nat.reduceMul, Nat.reduceLeDiff, Nat.reduceEqDiff, Nat.reduceBEq, Nat.reduceBNe, Int.reduceLT, Int.reduceLE, Int.reduceAdd, Int.reduceSub, Int.reduceMul, Int.reduceNeg, Int.reduceNe, Int.reduceBEq, Int.reduceBNe, Int.reduceToNat, c1, n1, n2, p_ratchetref09_find_111_eq, w1]
def formR (op : Int) : ByteArray := match opR op with | some r => r.1.form | none => ⟨#[]⟩
theorem rform_is {op : Int} {H : Heap} (h1 : -9223372036854775808 ≤ op) (h2 : op ≤ 9223372036854775807) : run (C k_ratchetref09_Form [.int .i64 op]) H = some (.ok (.str (formR op)) H) := by
  have hf := fun K => rfind_is (H := K) h1 h2
  rw [ratchetref09_Form_eq]
  unfold formR
  cases hp : opR op <;> rw [hp] at hf <;> unfold encQ at hf <;>
    simp (contextual := true) (dsimp := false) (disch := omega) only [↓goDown, goUp, List.length_cons, List.length_nil, List.map_cons, List.map_nil, List.take_succ_cons, List.take_zero, List.drop_succ_cons, List.drop_zero, List.drop_nil, List.take_nil, List.cons_append, List.nil_append, List.append_nil, List.set_cons_zero, List.set_cons_succ, List.all_cons, List.all_nil, ↓reduceIte, reduceCtorEq, ge_iff_le, gt_iff_lt, eq_self_iff_true, beq_self_eq_true, beq_iff_eq, bne_iff_ne, ne_eq, ite_not, Int.reduceEq, Option.getD_some, Option.getD_none, ite_self, Nat.reduceAdd, Nat.reduceSub, Nat.reduceMul, Nat.reduceLeDiff, Nat.reduceEqDiff, Nat.reduceBEq, Nat.reduceBNe, Int.reduceLT, Int.reduceLE, Int.reduceAdd, Int.reduceSub, Int.reduceMul, Int.reduceNeg, Int.reduceNe, Int.reduceBEq, Int.reduceBNe, Int.reduceToNat, hf]
end Go.Proofs.Ythidcpkcfoldmaa.Pi.Q
namespace Go.Proofs.Ythidcpkcfoldmaa.Pi.Q
open Go Go.Proofs.Ythidcpkcfoldmaa.Pi
set_option linter.unusedVariables false
set_option linter.unusedSimpArgs false
set_option maxRecDepth 100000
attribute [local congr] ite_congr
def wordsL : List (List UInt8) := [[], [45], [98, 108, 111, 99, 107], [116, 114, 121], [120], [120, 121], [116, 97, 98, 108, 101], [115, 101, 108, 101, 99, 116], [109, 101, 109], [105, 51, 50], [105, 54, 52], [102, 51, 50], [102, 54, 52], [104, 101, 97, 112], [99, 97, 115, 116], [98, 114, 95, 99, 97, 115, 116], [120, 110]]
def word (f : Nat) : List UInt8 := wordsL.getD f []
theorem pickP_none {op : Int} : ∀ (l : List PRow), (∀ r ∈ l, ¬ (r.first ≤ op ∧ op < r.first + r.many)) → pickP op l = (0, ⟨#[]⟩, 0)
  | [], _ => rfl
  | r :: l, h => by
    unfold pickP
    rw [if_neg (h r (by simp)), pickP_none l (fun q hq => h q (by simp [hq]))]
theorem pickR_none {op : Int} : ∀ (l : List RRow), (∀ r ∈ l, ¬ (r.first ≤ op ∧ op < r.first + 32)) → pickR op l = none
  | [], _ => rfl
  | r :: l, h => by
    unfold pickR
    rw [if_neg (h r (by simp)), pickR_none l (fun q hq => h q (by simp [hq]))]
def inU (a b : Int) : Prop := (0 ≤ a ∧ b ≤ 256) ∨ (64256 ≤ a ∧ b ≤ 64320) ∨ (64512 ≤ a ∧ b ≤ 64576)
instance (a b : Int) : Decidable (inU a b) := by unfold inU; infer_instance
theorem numP_u : ∀ r ∈ numP, inU r.first (r.first + r.many) := by decide +kernel
theorem othP_u : ∀ r ∈ othP, inU r.first (r.first + r.many) := by decide +kernel
theorem tabR_u : ∀ r ∈ tabR, inU r.first (r.first + 32) := by decide +kernel
theorem refR_u : ∀ r ∈ refR, inU r.first (r.first + 32) := by decide +kernel
def formN (op : Int) : Nat := (opP op).2.2.toNat
def agreeB (op : Int) : Bool := decide (formN op < 17) && ((opP op).2.2 == (formN op : Int) && ((formR op).data.toList == word (formN op) && ((formN op == 0) || (opP op).1 == op)))
theorem agree_in1 : ∀ n ∈ List.range 256, agreeB (n : Int) = true := by decide +kernel
theorem agree_in2 : ∀ n ∈ List.range 64, agreeB (64256 + n : Int) = true := by decide +kernel
theorem agree_in3 : ∀ n ∈ List.range 64, agreeB (64512 + n : Int) = true := by decide +kernel
theorem agree_all (op : Int) : agreeB op = true := by
  by_cases h1 : 0 ≤ op ∧ op < 256
  · have := agree_in1 op.toNat (List.mem_range.mpr (by omega))
    rwa [Int.toNat_of_nonneg h1.1] at this
  · by_cases h2 : 64256 ≤ op ∧ op < 64320
    · have := agree_in2 (op - 64256).toNat (List.mem_range.mpr (by omega))
      rwa [Int.toNat_of_nonneg (by omega), show 64256 + (op - 64256) = op by omega] at this
    · by_cases h3 : 64512 ≤ op ∧ op < 64576
      · have := agree_in3 (op - 64512).toNat (List.mem_range.mpr (by omega))
        rwa [Int.toNat_of_nonneg (by omega), show 64512 + (op - 64512) = op by omega] at this
      · have e1 := pickP_none (op := op) numP (fun r hr => by have := numP_u r hr; unfold inU at this; omega)
        have e2 := pickP_none (op := op) othP (fun r hr => by have := othP_u r hr; unfold inU at this; omega)
        have e3 := pickR_none (op := op) tabR (fun r hr => by have := tabR_u r hr; unfold inU at this; omega)
        have e4 := pickR_none (op := op) refR (fun r hr => by have := refR_u r hr; unfold inU at this; omega)
        have k1 : opP op = (0, ⟨#[]⟩, 0) := by unfold opP; split <;> assumption
        have k2 : opR op = none := by unfold opR; split <;> assumption
        unfold agreeB formN formR
        rw [k1, k2]
        rfl
theorem formN_lt (op : Int) : formN op < 17 := by
  have := agree_all op
  unfold agreeB at this
  simp only [Bool.and_eq_true, decide_eq_true_eq] at this
  exact this.1
theorem formP_is (op : Int) : (opP op).2.2 = (formN op : Int) := by
  have := agree_all op
  unfold agreeB at this
  simp only [Bool.and_eq_true, beq_iff_eq] at this
  exact this.2.1
theorem formR_is (op : Int) : formR op = ⟨(word (formN op)).toArray⟩ := by
  have := agree_all op
  unfold agreeB at this
  simp only [Bool.and_eq_true, beq_iff_eq] at this
  rw [← this.2.2.1, Array.toArray_toList]
theorem bytes_toList {a : List UInt8} : ByteArray.toList ⟨List.toArray a⟩ = a := ByteArray.toList_eq ⟨List.toArray a⟩
theorem seq_lit {a b : List UInt8} {ek : EqK} {H : Heap} : run (bi .eql ek (.str ⟨List.toArray a⟩) (.str ⟨List.toArray b⟩)) H = some (.ok (.bool (decide (a = b))) H) := by
  rw [bi_seql]
  show some (Out.ok (PV.bool _) H) = _
  rw [bytes_toList, bytes_toList]
  congr 3
  rw [Bool.eq_iff_iff]
  simp
theorem fd_name {a c : PV} {s : ByteArray} : fd 1 none (.agg [a, .str s, c]) = M.pure (.str s) := nrfl rfl
def addName : List UInt8 := [105, 51, 50, 46, 97, 100, 100]
theorem name_add : (opP 106).2.1.data.toList = addName := by decide +kernel
theorem iawake_is {H : Heap} : run (C k_ratchetlaw09_awake []) H = some (.ok (.bool true) H) := by
  have hf := fun K => find_is (op := 106) (H := K) (by omega) (by omega)
  have hn : (opP 106).2.1 = ⟨List.toArray [105, 51, 50, 46, 97, 100, 100]⟩ := by
    have := name_add
    unfold addName at this
    rw [← this, Array.toArray_toList]
  unfold encK at hf
  rw [hn] at hf
  rw [ratchetlaw09_awake_eq]
  simp (contextual := true) (dsimp := false) (disch := omega) only [↓goDown, goUp, List.length_cons, List.length_nil, List.map_cons, List.map_nil, List.take_succ_cons, List.take_zero, List.drop_succ_cons, List.drop_zero, List.drop_nil, List.take_nil, List.cons_append, List.nil_append, List.append_nil, List.set_cons_zero, List.set_cons_succ, List.all_cons, List.all_nil, ↓reduceIte, reduceCtorEq, ge_iff_le, gt_iff_lt, eq_self_iff_true, beq_self_eq_true, beq_iff_eq, bne_iff_ne, ne_eq, ite_not, Int.reduceEq, Option.getD_some, Option.getD_none, ite_self, Nat.reduceAdd, Nat.reduceSub, Nat.reduceMul, Nat.reduceLeDiff, Nat.reduceEqDiff, Nat.reduceBEq, Nat.reduceBNe, Int.reduceLT, Int.reduceLE, Int.reduceAdd, Int.reduceSub, Int.reduceMul, Int.reduceNeg, Int.reduceNe, Int.reduceBEq, Int.reduceBNe, Int.reduceToNat, instr_Name_eq, hf, fd_name, seq_lit, decide_true]
  try rfl
end Go.Proofs.Ythidcpkcfoldmaa.Pi.Q
namespace Go.Proofs.Ythidcpkcfoldmaa.Pi.Q
open Go Go.Proofs.Ythidcpkcfoldmaa.Pi
set_option linter.unusedVariables false
set_option linter.unusedSimpArgs false
set_option maxRecDepth 100000
attribute [local congr] ite_congr
structure PS where
  b : List UInt8
  bad : Bool
abbrev IR := Res PS Unit
abbrev qB (s : PS) : Box := .cells [accB s.b, .bool s.bad]
variable {c : Nat} {H : Heap} {L : List Box} {b : List UInt8} {f : Bool}
def qPut (u : List UInt8) (s : PS) : IR := if s.b.length + u.length ≤ 140737488355328 then .ok () ⟨s.b ++ u, s.bad⟩ else .no
def qMark (d : Bool) (s : PS) : IR := .ok () ⟨s.b, s.bad || d⟩
theorem imustK {ok : Bool} (hc : c < List.length H) : runK c (C k_instr_pen_must [.ptr c 0, .bool ok]) (St H c (.cells [accB b, .bool f]) L) = outK c H L qB encU (qMark (!ok) ⟨b, f⟩) := liftK (fun H hc => by
  rw [instr_pen_must_eq]
  unfold qMark
  cases ok <;> cases f <;>
    simp (contextual := true) (dsimp := false) (disch := omega) only [↓kDown, kUp, ↓goDown, goUp, List.length_cons, List.length_nil, List.map_cons, List.map_nil, List.take_succ_cons, List.take_zero, List.drop_succ_cons, List.drop_zero, List.drop_nil, List.take_nil, List.cons_append, List.nil_append, List.append_nil, List.set_cons_zero, List.set_cons_succ, List.all_cons, List.all_nil, ↓reduceIte, reduceCtorEq, ge_iff_le, gt_iff_lt, eq_self_iff_true, beq_self_eq_true, beq_iff_eq, bne_iff_ne, ne_eq, ite_not, Int.reduceEq, Option.getD_some, Option.getD_none, ite_self, Nat.reduceAdd, Nat.reduceSub, Nat.reduceMul, Nat.reduceLeDiff, Nat.reduceEqDiff, Nat.reduceBEq, Nat.reduceBNe, Int.reduceLT, Int.reduceLE, Int.reduceAdd, Int.reduceSub, Int.reduceMul, Int.reduceNeg, Int.reduceNe, Int.reduceBEq, Int.reduceBNe, Int.reduceToNat, un_not, isCell_B, cells_B, low_B, encU_is] <;> rfl) hc
theorem iuK {n : Int} (h0 : 0 ≤ n) (h1 : n < 18446744073709551616) (hc : c < List.length H) : runK c (C k_instr_pen_u [.ptr c 0, .int .u64 n]) (St H c (.cells [accB b, .bool f]) L) = outK c H L qB encU (qPut (putU n.toNat) ⟨b, f⟩) := liftK (fun H hc => by
  obtain ⟨n, rfl⟩ := Int.eq_ofNat_of_zero_le h0
  have hp := fun K => putU_is (H := K) (n := n) (by omega)
  rw [instr_pen_u_eq, Int.toNat_natCast]
  unfold qPut
  simp (contextual := true) (dsimp := false) (disch := omega) only [↓kDown, kUp, ↓goDown, goUp, List.length_cons, List.length_nil, List.map_cons, List.map_nil, List.take_succ_cons, List.take_zero, List.drop_succ_cons, List.drop_zero, List.drop_nil, List.take_nil, List.cons_append, List.nil_append, List.append_nil, List.set_cons_zero, List.set_cons_succ, List.all_cons, List.all_nil, ↓reduceIte, reduceCtorEq, ge_iff_le, gt_iff_lt, eq_self_iff_true, beq_self_eq_true, beq_iff_eq, bne_iff_ne, ne_eq, ite_not, Int.reduceEq, Option.getD_some, Option.getD_none, ite_self, Nat.reduceAdd, Nat.reduceSub, Nat.reduceMul, Nat.reduceLeDiff, Nat.reduceEqDiff, Nat.reduceBEq, Nat.reduceBNe, Int.reduceLT, Int.reduceLE, Int.reduceAdd, Int.reduceSub, Int.reduceMul, Int.reduceNeg, Int.reduceNe, Int.reduceBEq, Int.reduceBNe, Int.reduceToNat, hp, ap_X, isCell_B, cells_B, low_B, encU_is]) hc
theorem ap_own {o o' z : Bool} {sy s a : Nat} {ys : List PV} {x : PV} {K : Heap} {w : Bool} : run (ap w s a x (.slice o z sy ys)) K = run (ap w s a x (.slice o' z sy ys)) K := nrfl rfl
theorem accB_cases (u : List UInt8) : (∃ z sz xs o, accB u = .slice o z sz xs ∧ LZ true 1 (bytes u) = .slice false z sz xs) := by
  cases u with
  | nil => exact ⟨true, 0, [], false, rfl, rfl⟩
  | cons x r => exact ⟨false, 1, bytes (x :: r), true, rfl, rfl⟩
theorem ap_XZ {acc u : List UInt8} {K : Heap} : run (ap true 1 1 (accB acc) (LZ true 1 (bytes u))) K = if acc.length + u.length ≤ 140737488355328 then some (.ok (accB (acc ++ u)) K) else none := by
  rw [← ap_X]
  obtain ⟨z, sz, xs, o, h1, h2⟩ := accB_cases u
  rw [h1, h2]
  exact ap_own
def qEnt (r : List UInt8 × Int) (s : PS) : IR := (qMark (!(r.2 == 0)) s).bind fun _ s => qPut r.1 s
theorem iputK {r : List UInt8 × Int} (hc : c < List.length H) : runK c (C k_instr_pen_put [.ptr c 0, LZ true 1 (bytes r.1), .int .i64 r.2]) (St H c (.cells [accB b, .bool f]) L) = outK c H L qB encU (qEnt r ⟨b, f⟩) := liftK (fun H hc => by
  obtain ⟨u, e⟩ := r
  rw [instr_pen_put_eq]
  unfold qEnt qPut
  simp only
  simp (contextual := true) (dsimp := false) (disch := omega) only [↓kDown, kUp, ↓goDown, goUp, List.length_cons, List.length_nil, List.map_cons, List.map_nil, List.take_succ_cons, List.take_zero, List.drop_succ_cons, List.drop_zero, List.drop_nil, List.take_nil, List.cons_append, List.nil_append, List.append_nil, List.set_cons_zero, List.set_cons_succ, List.all_cons, List.all_nil, ↓reduceIte, reduceCtorEq, ge_iff_le, gt_iff_lt, eq_self_iff_true, beq_self_eq_true, beq_iff_eq, bne_iff_ne, ne_eq, ite_not, Int.reduceEq, Option.getD_some, Option.getD_none, ite_self, Nat.reduceAdd, Nat.reduceSub, Nat.reduceMul, Nat.reduceLeDiff, Nat.reduceEqDiff, Nat.reduceBEq, Nat.reduceBNe, Int.reduceLT, Int.reduceLE, Int.reduceAdd, Int.reduceSub, Int.reduceMul, Int.reduceNeg, Int.reduceNe, Int.reduceBEq, Int.reduceBNe, Int.reduceToNat, strip_Z, isCell_Z, cells_Z, low_Z, ap_XZ, imustK, qMark, isCell_B, cells_B, low_B, encU_is]) hc
def resU (k : KR) : List UInt8 × Int := match k with | .ok _ a => (a, 0) | .err _ l => ([], l.getD 1 0) | .no => ([], 0)
def eH (h : Int) : List UInt8 × Int := resU (kHeap h [])
def eV (v : VT) : List UInt8 × Int := resU (kVal v [])
def eB (v : BK) : List UInt8 × Int := resU (kBlock v [])
theorem both_res {k : KR} {g : GR} (h : Both k g) : OkR k ∧ (∀ K, outW k K = some (.ok (.tup [LZ true 1 (bytes (resU k).1), .int .i64 (resU k).2]) K)) ∧ (∃ s, g = .ok () s ∧ ∃ S, doneV s.b s.e = .tup [S, .int .i64 (resU k).2] ∧ stripC S = LZ true 1 (bytes (resU k).1) ∧ isTup S = false) := by
  rcases h with ⟨a, rfl, rfl⟩ | ⟨e, b, he, rfl, rfl⟩
  · exact ⟨⟨fun t l h => (by cases h), fun h => (by cases h)⟩, fun K => rfl, _, rfl, accB a, by simp [doneV, resU], stripC_B, isTup_B⟩
  · exact ⟨⟨fun t l h => (by cases h; exact ⟨rfl, _, _, rfl⟩), fun h => (by cases h)⟩, fun K => by simp [outW, resU]; rfl, _, rfl, .slice false true 0 [], by simp [doneV, resU, he], rfl, rfl⟩
theorem eH_is {h : Int} (hw : I64 h) {K : Heap} : run (C k_entry_PutHeapType [.int .i64 h]) K = some (.ok (.tup [LZ true 1 (bytes (eH h).1), .int .i64 (eH h).2]) K) := by
  obtain ⟨h1, h2, _⟩ := both_res ((heap_sim hw.1 hw.2).both (by decide))
  exact (put_heap h1).trans (h2 K)
theorem eV_is {v : VT} (hw : I64 v.heap) {K : Heap} : run (C k_entry_PutValType [.agg [.int .i64 v.num, .bool v.nul, .int .i64 v.heap]]) K = some (.ok (.tup [LZ true 1 (bytes (eV v).1), .int .i64 (eV v).2]) K) := by
  obtain ⟨h1, h2, _⟩ := both_res ((val_sim hw).both (by decide))
  exact (put_val h1).trans (h2 K)
theorem eB_is {v : BK} (hw : I64 v.res.heap) {K : Heap} : run (C k_entry_PutBlockType [.agg [.int .i64 v.ty, .int .i64 v.res.num, .bool v.res.nul, .int .i64 v.res.heap]]) K = some (.ok (.tup [LZ true 1 (bytes (eB v).1), .int .i64 (eB v).2]) K) := by
  obtain ⟨h1, h2, _⟩ := both_res (block_both (v := v) hw)
  exact (put_block h1).trans (h2 K)
theorem geH_is {h : Int} (hw : I64 h) : ∃ S, (∀ K, run (C k_ratchetref08_PutHeapType [.int .i64 h]) K = some (.ok (.tup [S, .int .i64 (eH h).2]) K)) ∧ stripC S = LZ true 1 (bytes (eH h).1) ∧ isTup S = false := by
  obtain ⟨_, _, s, h3, S, h4, h5, h6⟩ := both_res ((heap_sim hw.1 hw.2).both (by decide))
  exact ⟨S, fun K => by rw [gput_heap hw.2 h3, h4]; rfl, h5, h6⟩
theorem geV_is {v : VT} (hw : I64 v.heap) : ∃ S, (∀ K, run (C k_ratchetref08_PutValType [.agg [.int .i64 v.num, .bool v.nul, .int .i64 v.heap]]) K = some (.ok (.tup [S, .int .i64 (eV v).2]) K)) ∧ stripC S = LZ true 1 (bytes (eV v).1) ∧ isTup S = false := by
  obtain ⟨_, _, s, h3, S, h4, h5, h6⟩ := both_res ((val_sim hw).both (by decide))
  exact ⟨S, fun K => by rw [gput_val hw.2 h3, h4]; rfl, h5, h6⟩
theorem geB_is {v : BK} (hw : I64 v.res.heap) (h2 : v.ty ≤ 9223372036854775807) : ∃ S, (∀ K, run (C k_ratchetref08_PutBlockType [.agg [.int .i64 v.ty, .int .i64 v.res.num, .bool v.res.nul, .int .i64 v.res.heap]]) K = some (.ok (.tup [S, .int .i64 (eB v).2]) K)) ∧ stripC S = LZ true 1 (bytes (eB v).1) ∧ isTup S = false := by
  obtain ⟨_, _, s, h3, S, h4, h5, h6⟩ := both_res (block_both (v := v) hw)
  exact ⟨S, fun K => by rw [gput_block hw.2 h2 h3, h4]; rfl, h5, h6⟩
abbrev IW := List UInt8 × Bool
def iCat (a b : IW) : IW := (a.1 ++ b.1, a.2 || b.2)
def iAll {α : Type} (one : α → IW) : List α → IW
  | [] => ([], false)
  | a :: l => iCat (one a) (iAll one l)
theorem liftS {m : M PV} {bx bx' : Box} {v : PV} (h : ∀ H, c < List.length H → runK c m (St H c bx []) = some (.ok v (St H c bx' []))) (hc : c < List.length H) : runK c m (St H c bx L) = some (.ok v (St H c bx' L)) := by
  rw [St_flat hc, St_flat (x := bx') hc]
  exact h _ (by rw [len_add]; omega)
def IWr (c : Nat) (m : M PV) (w : IW) : Prop := ∀ {H : Heap} {L : List Box} {b : List UInt8} {f : Bool}, c < List.length H → b.length + w.1.length ≤ 140737488355328 →
  runK c m (St H c (.cells [accB b, .bool f]) L) = some (.ok (.tup []) (St H c (.cells [accB (b ++ w.1), .bool (f || w.2)]) L))
theorem IWr.mk {m : M PV} {w : IW} (h : ∀ (H : Heap) (b : List UInt8) (f : Bool), c < List.length H → b.length + w.1.length ≤ 140737488355328 → runK c m (St H c (.cells [accB b, .bool f]) []) = some (.ok (.tup []) (St H c (.cells [accB (b ++ w.1), .bool (f || w.2)]) []))) : IWr c m w :=
  fun hc hs => liftS (fun H hc => h H _ _ hc hs) hc
theorem imustW {ok : Bool} (hc : c < List.length H) : runK c (C k_instr_pen_must [.ptr c 0, .bool ok]) (St H c (.cells [accB b, .bool f]) L) = some (.ok (.tup []) (St H c (.cells [accB b, .bool (f || !ok)]) L)) := (imustK hc).trans rfl
theorem iuW {n : Int} (h0 : 0 ≤ n) (h1 : n < 18446744073709551616) (hc : c < List.length H) (hs : b.length + (putU n.toNat).length ≤ 140737488355328) : runK c (C k_instr_pen_u [.ptr c 0, .int .u64 n]) (St H c (.cells [accB b, .bool f]) L) = some (.ok (.tup []) (St H c (.cells [accB (b ++ putU n.toNat), .bool f]) L)) := by
  rw [iuK h0 h1 hc]
  unfold qPut
  rw [if_pos hs]
  rfl
def iEnt (r : List UInt8 × Int) : IW := (r.1, !(r.2 == 0))
theorem iputW {r : List UInt8 × Int} (hc : c < List.length H) (hs : b.length + r.1.length ≤ 140737488355328) : runK c (C k_instr_pen_put [.ptr c 0, LZ true 1 (bytes r.1), .int .i64 r.2]) (St H c (.cells [accB b, .bool f]) L) = some (.ok (.tup []) (St H c (.cells [accB (b ++ r.1), .bool (f || !(r.2 == 0))]) L)) := by
  rw [iputK hc]
  unfold qEnt qMark qPut
  simp only [Res.bind]
  rw [if_pos hs]
  rfl
def iRef (v : VT) : IW := ((eH v.heap).1, !(v.num == 5) || !((eH v.heap).2 == 0))
theorem irefs_loop {z : Bool} {l : List VT} (hl : l.length < 2 ^ 62) (hw : ∀ v ∈ l, I64 v.heap) : ∀ (m i : Nat) (b : List UInt8) (f : Bool) (L : List Box) (H : Heap), i + m = l.length → c < List.length H → b.length + (iAll iRef (l.drop i)).1.length ≤ 140737488355328 →
    ∃ L', runK c (p_instr_pen_refs_110 (.ptr c 0) (LZ z 3 (l.map encV)) (.int .i64 l.length) (.int .i64 i)) (St H c (.cells [accB b, .bool f]) L) = some (.ok (.tup []) (St H c (.cells [accB (b ++ (iAll iRef (l.drop i)).1), .bool (f || (iAll iRef (l.drop i)).2)]) L'))
  | 0, i, b, f, L, H, hi, hc, hs => by
    have c1 : ¬ (i : Int) < l.length := by omega
    have e0 : l.drop i = [] := List.drop_eq_nil_of_le (by omega)
    refine ⟨L, ?_⟩
    rw [e0, p_instr_pen_refs_110_eq]
    simp (contextual := true) (dsimp := false) (disch := omega) only [↓kDown, kUp, ↓goDown, goUp, List.length_cons, List.length_nil, List.map_cons, List.map_nil, List.take_succ_cons, List.take_zero, List.drop_succ_cons, List.drop_zero, List.drop_nil, List.take_nil, List.cons_append, List.nil_append, List.append_nil, List.set_cons_zero, List.set_cons_succ, List.all_cons, List.all_nil, ↓reduceIte, reduceCtorEq, ge_iff_le, gt_iff_lt, eq_self_iff_true, beq_self_eq_true, beq_iff_eq, bne_iff_ne, ne_eq, ite_not, Int.reduceEq, Option.getD_some, Option.getD_none, ite_self, Nat.reduceAdd, Nat.reduceSub, Nat.reduceMul, Nat.reduceLeDiff, Nat.reduceEqDiff, Nat.reduceBEq, Nat.reduceBNe, Int.reduceLT, Int.reduceLE, Int.reduceAdd, Int.reduceSub, Int.reduceMul, Int.reduceNeg, Int.reduceNe, Int.reduceBEq, Int.reduceBNe, Int.reduceToNat, c1, iAll, encU_is, Bool.or_false]
  | m + 1, i, b, f, L, H, hi, hc, hs => by
    have c1 : (i : Int) < l.length := by omega
    have hil : i < l.length := by omega
    have hg : (l.map encV)[i]? = some (encV l[i]) := by simp [hil]
    have hia : ∀ K, run (iaS 3 (LZ z 3 (l.map encV)) (.int .i64 i)) K = some (.ok (.elem [.int .i64 l[i].num, .bool l[i].nul, .int .i64 l[i].heap]) K) := fun K => (ia_Z hg).trans rfl
    have hd : l.drop i = l[i] :: l.drop (i + 1) := List.drop_eq_getElem_cons hil
    have e1 : ((i : Int) + 1) = ((i + 1 : Nat) : Int) := rfl
    rw [hd] at hs ⊢
    simp only [iAll, iCat, iRef, List.length_append] at hs ⊢
    rw [St_flat hc]
    have hc' : c < List.length (hadd H L) := by rw [len_add]; omega
    have he := fun K => eH_is (K := K) (hw l[i] (List.getElem_mem hil))
    obtain ⟨L', ih⟩ := irefs_loop (z := z) hl hw m (i + 1) (b ++ (eH l[i].heap).1) (f || !(l[i].num == 5) || !((eH l[i].heap).2 == 0)) [.cells [.int .i64 l[i].num, .bool l[i].nul, .int .i64 l[i].heap]] (hadd H L) (by omega) hc' (by rw [List.length_append]; omega)
    refine ⟨L ++ L', ?_⟩
    have hS : ∀ x, St H c x (L ++ L') = St (hadd H L) c x L' := fun x => (St_out rfl hc).symm
    rw [hS]
    obtain ⟨K, hK⟩ : ∃ K, K = hadd H L := ⟨_, rfl⟩
    rw [← hK] at hc' ih ⊢
    simp only [List.append_assoc, Bool.or_assoc] at ih
    rw [p_instr_pen_refs_110_eq]
    simp (contextual := true) (dsimp := false) (disch := omega) only [↓kDown, kUp, ↓goDown, goUp, List.length_cons, List.length_nil, List.map_cons, List.map_nil, List.take_succ_cons, List.take_zero, List.drop_succ_cons, List.drop_zero, List.drop_nil, List.take_nil, List.cons_append, List.nil_append, List.append_nil, List.set_cons_zero, List.set_cons_succ, List.all_cons, List.all_nil, ↓reduceIte, reduceCtorEq, ge_iff_le, gt_iff_lt, eq_self_iff_true, beq_self_eq_true, beq_iff_eq, bne_iff_ne, ne_eq, ite_not, Int.reduceEq, Option.getD_some, Option.getD_none, ite_self, Nat.reduceAdd, Nat.reduceSub, Nat.reduceMul, Nat.reduceLeDiff, Nat.reduceEqDiff, Nat.reduceBEq, Nat.reduceBNe, Int.reduceLT, Int.reduceLE, Int.reduceAdd, Int.reduceSub, Int.reduceMul, Int.reduceNeg, Int.reduceNe, Int.reduceBEq, Int.reduceBNe, Int.reduceToNat, c1, hia, e1, imustW, toK (m := C k_entry_PutHeapType [.int .i64 l[i].heap]), he, iputW, ih, cells_Z, isCell_Z, low_Z, stripC_Z, isTup_Z, strip_Z, List.append_assoc, Bool.or_assoc]
def iRefs (l : List VT) (n : Int) : IW := iCat ([], !((l.length : Int) == n)) (iAll iRef l)
theorem irefsW {z : Bool} {l : List VT} {n : Int} (hl : l.length < 2 ^ 62) (hw : ∀ v ∈ l, I64 v.heap) : IWr c (C k_instr_pen_refs [.ptr c 0, LZ z 3 (l.map encV), .int .i64 n]) (iRefs l n) := IWr.mk fun H b f hc hs => by
  simp only [iRefs, iCat, List.nil_append] at hs ⊢
  obtain ⟨L', h⟩ := irefs_loop (z := z) hl hw l.length 0 b (f || !((l.length : Int) == n)) [] H (by omega) hc hs
  have e0 : ((0 : Nat) : Int) = 0 := rfl
  rw [e0, List.drop_zero] at h
  simp only [List.append_assoc, Bool.or_assoc] at h
  rw [instr_pen_refs_eq]
  have hln : ∀ K, run (lnL (LZ z 3 (l.map encV))) K = some (.ok (.int .i64 l.length) K) := fun K => by rw [ln_Z, List.length_map]
  simp (contextual := true) (dsimp := false) (disch := omega) only [↓kDown, kUp, ↓goDown, goUp, List.length_cons, List.length_nil, List.map_cons, List.map_nil, List.take_succ_cons, List.take_zero, List.drop_succ_cons, List.drop_zero, List.drop_nil, List.take_nil, List.cons_append, List.nil_append, List.append_nil, List.set_cons_zero, List.set_cons_succ, List.all_cons, List.all_nil, ↓reduceIte, reduceCtorEq, ge_iff_le, gt_iff_lt, eq_self_iff_true, beq_self_eq_true, beq_iff_eq, bne_iff_ne, ne_eq, ite_not, Int.reduceEq, Option.getD_some, Option.getD_none, ite_self, Nat.reduceAdd, Nat.reduceSub, Nat.reduceMul, Nat.reduceLeDiff, Nat.reduceEqDiff, Nat.reduceBEq, Nat.reduceBNe, Int.reduceLT, Int.reduceLE, Int.reduceAdd, Int.reduceSub, Int.reduceMul, Int.reduceNeg, Int.reduceNe, Int.reduceBEq, Int.reduceBNe, Int.reduceToNat, strip_Z, hln, imustW, h, encU_is, Bool.or_assoc]
end Go.Proofs.Ythidcpkcfoldmaa.Pi.Q
namespace Go.Proofs.Ythidcpkcfoldmaa.Pi.Q
open Go Go.Proofs.Ythidcpkcfoldmaa.Pi
set_option linter.unusedVariables false
set_option linter.unusedSimpArgs false
set_option maxRecDepth 100000
attribute [local congr] ite_congr
variable {c : Nat} {H : Heap} {L : List Box} {b : List UInt8} {f : Bool}
def iByte (n : Int) : UInt8 := UInt8.ofNat (IntKind.u8.wrap n).toNat
theorem bsR_i {n : Int} {K : Heap} : bsR true none [.int .u8 (IntKind.u8.wrap n)] K = some (.ok (.slice true false 1 [byt (iByte n)]) K) := bsR_wrap
theorem ap_S1 {acc : List UInt8} {x : UInt8} {K : Heap} (h : acc.length + 1 ≤ 140737488355328) : run (ap true 1 1 (accB acc) (.slice true false 1 [byt x])) K = some (.ok (accB (acc ++ [x])) K) := by rw [ap_X1, if_pos h]
theorem ap_Su {acc u : List UInt8} {K : Heap} (h : acc.length + u.length ≤ 140737488355328) : run (ap true 1 1 (accB acc) (accB u)) K = some (.ok (accB (acc ++ u)) K) := by rw [ap_X, if_pos h]
theorem bsR_j {n : Int} {K : Heap} (h : 0 ≤ n ∧ n ≤ 255) : bsR true none [.int .u8 n] K = some (.ok (.slice true false 1 [byt (iByte n)]) K) := by
  have := bsR_i (n := n) (K := K)
  rwa [w_u8 h] at this
def fixL : Nat → Int → List UInt8
  | 0, _ => []
  | k + 1, n => iByte n :: fixL k (n / 256)
theorem fixL_len : ∀ (k : Nat) (n : Int), (fixL k n).length = k
  | 0, _ => rfl
  | k + 1, n => by simp [fixL, fixL_len k]
theorem shr8 {n : Int} (h : 0 ≤ n) : n.fdiv (2 ^ shiftN .u64 8) = n / 256 := by
  rw [show shiftN .u64 8 = 8 from rfl, Int.fdiv_eq_ediv_of_nonneg _ (by omega)]
  rfl
theorem bits_loop {v4 : PV} {k : Nat} (hk : k < 100) : ∀ (m i : Nat) (n : Int) (acc : List UInt8) (K : Heap), i + m = k → 0 ≤ n → acc.length + m ≤ 140737488355328 → run (p_leb_bits_11010 (.int .u64 n) v4 (accB acc) (.int .i64 k) (.int .i64 i)) K = some (.ok (accB (acc ++ fixL m n)) K)
  | 0, i, n, acc, K, hi, hn, hs => by
    have c1 : ¬ (i : Int) < k := by omega
    rw [p_leb_bits_11010_eq]
    simp (contextual := true) (dsimp := false) (disch := omega) only [↓goDown, goUp, List.length_cons, List.length_nil, List.map_cons, List.map_nil, List.take_succ_cons, List.take_zero, List.drop_succ_cons, List.drop_zero, List.drop_nil, List.take_nil, List.cons_append, List.nil_append, List.append_nil, List.set_cons_zero, List.set_cons_succ, List.all_cons, List.all_nil, ↓reduceIte, reduceCtorEq, ge_iff_le, gt_iff_lt, eq_self_iff_true, beq_self_eq_true, beq_iff_eq, bne_iff_ne, ne_eq, ite_not, Int.reduceEq, Option.getD_some, Option.getD_none, ite_self, Nat.reduceAdd, Nat.reduceSub, Nat.reduceMul, Nat.reduceLeDiff, Nat.reduceEqDiff, Nat.reduceBEq, Nat.reduceBNe, Int.reduceLT, Int.reduceLE, Int.reduceAdd, Int.reduceSub, Int.reduceMul, Int.reduceNeg, Int.reduceNe, Int.reduceBEq, Int.reduceBNe, Int.reduceToNat, c1, isTup_B, fixL]
  | m + 1, i, n, acc, K, hi, hn, hs => by
    have c1 : (i : Int) < k := by omega
    have ih := bits_loop (v4 := v4) hk m (i + 1) (n / 256) (acc ++ [iByte n]) K (by omega) (by omega) (by simp; omega)
    have e1 : ((i : Int) + 1) = ((i + 1 : Nat) : Int) := rfl
    rw [p_leb_bits_11010_eq]
    simp (contextual := true) (dsimp := false) (disch := omega) only [↓goDown, goUp, List.length_cons, List.length_nil, List.map_cons, List.map_nil, List.take_succ_cons, List.take_zero, List.drop_succ_cons, List.drop_zero, List.drop_nil, List.take_nil, List.cons_append, List.nil_append, List.append_nil, List.set_cons_zero, List.set_cons_succ, List.all_cons, List.all_nil, ↓reduceIte, reduceCtorEq, ge_iff_le, gt_iff_lt, eq_self_iff_true, beq_self_eq_true, beq_iff_eq, bne_iff_ne, ne_eq, ite_not, Int.reduceEq, Option.getD_some, Option.getD_none, ite_self, Nat.reduceAdd, Nat.reduceSub, Nat.reduceMul, Nat.reduceLeDiff, Nat.reduceEqDiff, Nat.reduceBEq, Nat.reduceBNe, Int.reduceLT, Int.reduceLE, Int.reduceAdd, Int.reduceSub, Int.reduceMul, Int.reduceNeg, Int.reduceNe, Int.reduceBEq, Int.reduceBNe, Int.reduceToNat, c1, bsR_i, ap_S1, run_shr, shr8, e1, ih, fixL, List.append_assoc]
theorem bits_is {k : Nat} {n : Int} (hk : k < 100) (hn : 0 ≤ n) {K : Heap} : run (C k_leb_bits [.int .u64 n, .int .i64 k]) K = some (.ok (accB (fixL k n)) K) := by
  have h := bits_loop (v4 := .slice false true 0 []) hk k 0 n [] K (by omega) hn (by simp; omega)
  have e0 : accB [] = .slice false true 0 [] := rfl
  have e1 : ((0 : Nat) : Int) = 0 := rfl
  rw [e0, e1, List.nil_append] at h
  rw [leb_bits_eq]
  simp (contextual := true) (dsimp := false) (disch := omega) only [↓goDown, goUp, List.length_cons, List.length_nil, List.map_cons, List.map_nil, List.take_succ_cons, List.take_zero, List.drop_succ_cons, List.drop_zero, List.drop_nil, List.take_nil, List.cons_append, List.nil_append, List.append_nil, List.set_cons_zero, List.set_cons_succ, List.all_cons, List.all_nil, ↓reduceIte, reduceCtorEq, ge_iff_le, gt_iff_lt, eq_self_iff_true, beq_self_eq_true, beq_iff_eq, bne_iff_ne, ne_eq, ite_not, Int.reduceEq, Option.getD_some, Option.getD_none, ite_self, Nat.reduceAdd, Nat.reduceSub, Nat.reduceMul, Nat.reduceLeDiff, Nat.reduceEqDiff, Nat.reduceBEq, Nat.reduceBNe, Int.reduceLT, Int.reduceLE, Int.reduceAdd, Int.reduceSub, Int.reduceMul, Int.reduceNeg, Int.reduceNe, Int.reduceBEq, Int.reduceBNe, Int.reduceToNat, h, low_B]
theorem putF32_is {n : Int} (h0 : 0 ≤ n) (h1 : n ≤ 4294967295) {K : Heap} : run (C k_leb_PutF32 [.int .u32 n]) K = some (.ok (accB (fixL 4 n)) K) := by
  have h := fun K => bits_is (k := 4) (n := n) (K := K) (by omega) h0
  have e1 : ((4 : Nat) : Int) = 4 := rfl
  rw [e1] at h
  rw [leb_PutF32_eq]
  simp (contextual := true) (dsimp := false) (disch := omega) only [↓goDown, goUp, List.length_cons, List.length_nil, List.map_cons, List.map_nil, List.take_succ_cons, List.take_zero, List.drop_succ_cons, List.drop_zero, List.drop_nil, List.take_nil, List.cons_append, List.nil_append, List.append_nil, List.set_cons_zero, List.set_cons_succ, List.all_cons, List.all_nil, ↓reduceIte, reduceCtorEq, ge_iff_le, gt_iff_lt, eq_self_iff_true, beq_self_eq_true, beq_iff_eq, bne_iff_ne, ne_eq, ite_not, Int.reduceEq, Option.getD_some, Option.getD_none, ite_self, Nat.reduceAdd, Nat.reduceSub, Nat.reduceMul, Nat.reduceLeDiff, Nat.reduceEqDiff, Nat.reduceBEq, Nat.reduceBNe, Int.reduceLT, Int.reduceLE, Int.reduceAdd, Int.reduceSub, Int.reduceMul, Int.reduceNeg, Int.reduceNe, Int.reduceBEq, Int.reduceBNe, Int.reduceToNat, h, isTup_B, low_B]
theorem putF64_is {n : Int} (h0 : 0 ≤ n) {K : Heap} : run (C k_leb_PutF64 [.int .u64 n]) K = some (.ok (accB (fixL 8 n)) K) := by
  have h := fun K => bits_is (k := 8) (n := n) (K := K) (by omega) h0
  have e1 : ((8 : Nat) : Int) = 8 := rfl
  rw [e1] at h
  rw [leb_PutF64_eq]
  simp (contextual := true) (dsimp := false) (disch := omega) only [↓goDown, goUp, List.length_cons, List.length_nil, List.map_cons, List.map_nil, List.take_succ_cons, List.take_zero, List.drop_succ_cons, List.drop_zero, List.drop_nil, List.take_nil, List.cons_append, List.nil_append, List.append_nil, List.set_cons_zero, List.set_cons_succ, List.all_cons, List.all_nil, ↓reduceIte, reduceCtorEq, ge_iff_le, gt_iff_lt, eq_self_iff_true, beq_self_eq_true, beq_iff_eq, bne_iff_ne, ne_eq, ite_not, Int.reduceEq, Option.getD_some, Option.getD_none, ite_self, Nat.reduceAdd, Nat.reduceSub, Nat.reduceMul, Nat.reduceLeDiff, Nat.reduceEqDiff, Nat.reduceBEq, Nat.reduceBNe, Int.reduceLT, Int.reduceLE, Int.reduceAdd, Int.reduceSub, Int.reduceMul, Int.reduceNeg, Int.reduceNe, Int.reduceBEq, Int.reduceBNe, Int.reduceToNat, h, isTup_B, low_B]
theorem rquo {n : Int} (h : 0 ≤ n) : IntKind.u64.wrap (n.tdiv 256) = IntKind.u64.wrap (n / 256) := by rw [Int.tdiv_eq_ediv_of_nonneg h]
theorem rrem {n : Int} (h : 0 ≤ n) : IntKind.u8.wrap (n.tmod 256) = IntKind.u8.wrap n := by
  rw [Int.tmod_eq_emod_of_nonneg h, IntKind.wrap_u8, IntKind.wrap_u8]
  omega
theorem rfix_loop {v4 : PV} {k : Nat} (hk : k < 100) : ∀ (m i : Nat) (n : Int) (acc : List UInt8) (K : Heap), i + m = k → 0 ≤ n → n ≤ 18446744073709551615 → acc.length + m ≤ 140737488355328 → run (p_ratchetref01_PutFixed_11010 (.int .u64 n) (.int .i64 k) v4 (accB acc) (.int .i64 i)) K = some (.ok (accB (acc ++ fixL m n)) K)
  | 0, i, n, acc, K, hi, hn, hn1, hs => by
    have c1 : ¬ (i : Int) < k := by omega
    rw [p_ratchetref01_PutFixed_11010_eq]
    simp (contextual := true) (dsimp := false) (disch := omega) only [↓goDown, goUp, List.length_cons, List.length_nil, List.map_cons, List.map_nil, List.take_succ_cons, List.take_zero, List.drop_succ_cons, List.drop_zero, List.drop_nil, List.take_nil, List.cons_append, List.nil_append, List.append_nil, List.set_cons_zero, List.set_cons_succ, List.all_cons, List.all_nil, ↓reduceIte, reduceCtorEq, ge_iff_le, gt_iff_lt, eq_self_iff_true, beq_self_eq_true, beq_iff_eq, bne_iff_ne, ne_eq, ite_not, Int.reduceEq, Option.getD_some, Option.getD_none, ite_self, Nat.reduceAdd, Nat.reduceSub, Nat.reduceMul, Nat.reduceLeDiff, Nat.reduceEqDiff, Nat.reduceBEq, Nat.reduceBNe, Int.reduceLT, Int.reduceLE, Int.reduceAdd, Int.reduceSub, Int.reduceMul, Int.reduceNeg, Int.reduceNe, Int.reduceBEq, Int.reduceBNe, Int.reduceToNat, c1, isTup_B, fixL]
  | m + 1, i, n, acc, K, hi, hn, hn1, hs => by
    have c1 : (i : Int) < k := by omega
    have ih := rfix_loop (v4 := v4) hk m (i + 1) (n / 256) (acc ++ [iByte n]) K (by omega) (by omega) (by omega) (by simp; omega)
    have e1 : ((i : Int) + 1) = ((i + 1 : Nat) : Int) := rfl
    have e2 := rquo hn
    have e3 := rrem hn
    rw [p_ratchetref01_PutFixed_11010_eq]
    simp (contextual := true) (dsimp := false) (disch := omega) only [↓goDown, goUp, List.length_cons, List.length_nil, List.map_cons, List.map_nil, List.take_succ_cons, List.take_zero, List.drop_succ_cons, List.drop_zero, List.drop_nil, List.take_nil, List.cons_append, List.nil_append, List.append_nil, List.set_cons_zero, List.set_cons_succ, List.all_cons, List.all_nil, ↓reduceIte, reduceCtorEq, ge_iff_le, gt_iff_lt, eq_self_iff_true, beq_self_eq_true, beq_iff_eq, bne_iff_ne, ne_eq, ite_not, Int.reduceEq, Option.getD_some, Option.getD_none, ite_self, Nat.reduceAdd, Nat.reduceSub, Nat.reduceMul, Nat.reduceLeDiff, Nat.reduceEqDiff, Nat.reduceBEq, Nat.reduceBNe, Int.reduceLT, Int.reduceLE, Int.reduceAdd, Int.reduceSub, Int.reduceMul, Int.reduceNeg, Int.reduceNe, Int.reduceBEq, Int.reduceBNe, Int.reduceToNat, c1, e2, e3, bsR_i, ap_S1, e1, ih, fixL, List.append_assoc]
theorem putFixed_is {k : Nat} {n : Int} (hk : k < 100) (hn : 0 ≤ n) (hn1 : n ≤ 18446744073709551615) {K : Heap} : run (C k_ratchetref01_PutFixed [.int .u64 n, .int .i64 k]) K = some (.ok (accB (fixL k n)) K) := by
  have h := rfix_loop (v4 := .slice false true 0 []) hk k 0 n [] K (by omega) hn hn1 (by simp; omega)
  have e0 : accB [] = .slice false true 0 [] := rfl
  have e1 : ((0 : Nat) : Int) = 0 := rfl
  rw [e0, e1, List.nil_append] at h
  rw [ratchetref01_PutFixed_eq]
  simp (contextual := true) (dsimp := false) (disch := omega) only [↓goDown, goUp, List.length_cons, List.length_nil, List.map_cons, List.map_nil, List.take_succ_cons, List.take_zero, List.drop_succ_cons, List.drop_zero, List.drop_nil, List.take_nil, List.cons_append, List.nil_append, List.append_nil, List.set_cons_zero, List.set_cons_succ, List.all_cons, List.all_nil, ↓reduceIte, reduceCtorEq, ge_iff_le, gt_iff_lt, eq_self_iff_true, beq_self_eq_true, beq_iff_eq, bne_iff_ne, ne_eq, ite_not, Int.reduceEq, Option.getD_some, Option.getD_none, ite_self, Nat.reduceAdd, Nat.reduceSub, Nat.reduceMul, Nat.reduceLeDiff, Nat.reduceEqDiff, Nat.reduceBEq, Nat.reduceBNe, Int.reduceLT, Int.reduceLE, Int.reduceAdd, Int.reduceSub, Int.reduceMul, Int.reduceNeg, Int.reduceNe, Int.reduceBEq, Int.reduceBNe, Int.reduceToNat, h, low_B]
def iTag (v : CH) : List UInt8 := if v.kind < 2 then putU v.tag.toNat else []
def catchOk (v : CH) : Bool := decide (0 ≤ v.kind) && (decide (v.kind ≤ 3) && (decide (v.kind < 2) || (v.tag == 0)))
def iCatch (v : CH) : IW := ([iByte v.kind] ++ (iTag v ++ putU v.label.toNat), !catchOk v)
def U32 (n : Int) : Prop := 0 ≤ n ∧ n ≤ 4294967295
theorem itry_loop {z : Bool} {l : List CH} (hl : l.length < 2 ^ 62) (hw : ∀ v ∈ l, U32 v.tag ∧ U32 v.label) : ∀ (m i : Nat) (b : List UInt8) (f : Bool) (L : List Box) (H : Heap), i + m = l.length → c < List.length H → b.length + (iAll iCatch (l.drop i)).1.length ≤ 140737488355328 →
    ∃ L', runK c (p_instr_pen_try_111110 (.ptr c 0) (LZ z 3 (l.map encCH)) (.int .i64 l.length) (.int .i64 i)) (St H c (.cells [accB b, .bool f]) L) = some (.ok (.tup []) (St H c (.cells [accB (b ++ (iAll iCatch (l.drop i)).1), .bool (f || (iAll iCatch (l.drop i)).2)]) L'))
  | 0, i, b, f, L, H, hi, hc, hs => by
    have c1 : ¬ (i : Int) < l.length := by omega
    have e0 : l.drop i = [] := List.drop_eq_nil_of_le (by omega)
    refine ⟨L, ?_⟩
    rw [e0, p_instr_pen_try_111110_eq]
    simp (contextual := true) (dsimp := false) (disch := omega) only [↓kDown, kUp, ↓goDown, goUp, List.length_cons, List.length_nil, List.map_cons, List.map_nil, List.take_succ_cons, List.take_zero, List.drop_succ_cons, List.drop_zero, List.drop_nil, List.take_nil, List.cons_append, List.nil_append, List.append_nil, List.set_cons_zero, List.set_cons_succ, List.all_cons, List.all_nil, ↓reduceIte, reduceCtorEq, ge_iff_le, gt_iff_lt, eq_self_iff_true, beq_self_eq_true, beq_iff_eq, bne_iff_ne, ne_eq, ite_not, Int.reduceEq, Option.getD_some, Option.getD_none, ite_self, Nat.reduceAdd, Nat.reduceSub, Nat.reduceMul, Nat.reduceLeDiff, Nat.reduceEqDiff, Nat.reduceBEq, Nat.reduceBNe, Int.reduceLT, Int.reduceLE, Int.reduceAdd, Int.reduceSub, Int.reduceMul, Int.reduceNeg, Int.reduceNe, Int.reduceBEq, Int.reduceBNe, Int.reduceToNat, c1, iAll, encU_is, Bool.or_false]
  | m + 1, i, b, f, L, H, hi, hc, hs => by
    have c1 : (i : Int) < l.length := by omega
    have hil : i < l.length := by omega
    have hg : (l.map encCH)[i]? = some (encCH l[i]) := by simp [hil]
    have hia : ∀ K, run (iaS 3 (LZ z 3 (l.map encCH)) (.int .i64 i)) K = some (.ok (.elem [.int .i64 l[i].kind, .int .u32 l[i].tag, .int .u32 l[i].label]) K) := fun K => (ia_Z hg).trans rfl
    have hd : l.drop i = l[i] :: l.drop (i + 1) := List.drop_eq_getElem_cons hil
    have e1 : ((i : Int) + 1) = ((i + 1 : Nat) : Int) := rfl
    rw [hd] at hs ⊢
    obtain ⟨⟨t0, t1⟩, ⟨b0, b1⟩⟩ := hw l[i] (List.getElem_mem hil)
    simp only [iAll, iCat, iCatch, List.length_append, List.length_cons, List.length_nil] at hs ⊢
    rw [St_flat hc]
    have hc' : c < List.length (hadd H L) := by rw [len_add]; omega
    obtain ⟨L', ih⟩ := itry_loop (z := z) hl hw m (i + 1) (b ++ ([iByte l[i].kind] ++ (iTag l[i] ++ putU l[i].label.toNat))) (f || !catchOk l[i]) [.cells [.int .i64 l[i].kind, .int .u32 l[i].tag, .int .u32 l[i].label]] (hadd H L) (by omega) hc' (by simp only [List.length_append, List.length_cons, List.length_nil]; omega)
    refine ⟨L ++ L', ?_⟩
    have hS : ∀ x, St H c x (L ++ L') = St (hadd H L) c x L' := fun x => (St_out rfl hc).symm
    rw [hS]
    obtain ⟨K, hK⟩ : ∃ K, K = hadd H L := ⟨_, rfl⟩
    rw [← hK] at hc' ih ⊢
    simp only [List.append_assoc, Bool.or_assoc] at ih
    rw [p_instr_pen_try_111110_eq]
    by_cases k2 : l[i].kind < 2
    · have eT : iTag l[i] = putU l[i].tag.toNat := if_pos k2
      rw [eT] at hs ih ⊢
      by_cases k0 : 0 ≤ l[i].kind
      · have eC : catchOk l[i] = true := by unfold catchOk; simp; omega
        rw [eC] at ih ⊢
        simp only [List.append_assoc, List.cons_append, List.nil_append, Bool.or_assoc, Bool.not_true, Bool.not_false, Bool.or_false, Bool.false_or, Bool.true_or, Bool.or_true] at ih
        have k3 : l[i].kind ≤ 3 := by omega
        simp (contextual := true) (dsimp := false) (disch := first | omega | (simp only [List.length_append, List.length_cons, List.length_nil]; omega)) only [↓kDown, kUp, ↓goDown, goUp, List.length_cons, List.length_nil, List.map_cons, List.map_nil, List.take_succ_cons, List.take_zero, List.drop_succ_cons, List.drop_zero, List.drop_nil, List.take_nil, List.cons_append, List.nil_append, List.append_nil, List.set_cons_zero, List.set_cons_succ, List.all_cons, List.all_nil, ↓reduceIte, reduceCtorEq, ge_iff_le, gt_iff_lt, eq_self_iff_true, beq_self_eq_true, beq_iff_eq, bne_iff_ne, ne_eq, ite_not, Int.reduceEq, Option.getD_some, Option.getD_none, ite_self, Nat.reduceAdd, Nat.reduceSub, Nat.reduceMul, Nat.reduceLeDiff, Nat.reduceEqDiff, Nat.reduceBEq, Nat.reduceBNe, Int.reduceLT, Int.reduceLE, Int.reduceAdd, Int.reduceSub, Int.reduceMul, Int.reduceNeg, Int.reduceNe, Int.reduceBEq, Int.reduceBNe, Int.reduceToNat, c1, hia, e1, eq_true k0, eq_true k3, eq_true k2, imustW, bsR_i, bsR_j, ap_S1, iuW, p_instr_pen_try_111110011001111_eq, isCell_B, cells_B, low_B, ih, cells_Z, isCell_Z, low_Z, stripC_Z, isTup_Z, strip_Z, List.append_assoc, List.cons_append, List.nil_append, Bool.or_assoc, Bool.not_true, Bool.not_false, Bool.or_false, Bool.false_or, Bool.true_or, Bool.or_true]
      · have eC : catchOk l[i] = false := by unfold catchOk; simp; omega
        rw [eC] at ih ⊢
        simp only [List.append_assoc, List.cons_append, List.nil_append, Bool.or_assoc, Bool.not_true, Bool.not_false, Bool.or_false, Bool.false_or, Bool.true_or, Bool.or_true] at ih
        simp (contextual := true) (dsimp := false) (disch := first | omega | (simp only [List.length_append, List.length_cons, List.length_nil]; omega)) only [↓kDown, kUp, ↓goDown, goUp, List.length_cons, List.length_nil, List.map_cons, List.map_nil, List.take_succ_cons, List.take_zero, List.drop_succ_cons, List.drop_zero, List.drop_nil, List.take_nil, List.cons_append, List.nil_append, List.append_nil, List.set_cons_zero, List.set_cons_succ, List.all_cons, List.all_nil, ↓reduceIte, reduceCtorEq, ge_iff_le, gt_iff_lt, eq_self_iff_true, beq_self_eq_true, beq_iff_eq, bne_iff_ne, ne_eq, ite_not, Int.reduceEq, Option.getD_some, Option.getD_none, ite_self, Nat.reduceAdd, Nat.reduceSub, Nat.reduceMul, Nat.reduceLeDiff, Nat.reduceEqDiff, Nat.reduceBEq, Nat.reduceBNe, Int.reduceLT, Int.reduceLE, Int.reduceAdd, Int.reduceSub, Int.reduceMul, Int.reduceNeg, Int.reduceNe, Int.reduceBEq, Int.reduceBNe, Int.reduceToNat, c1, hia, e1, k0, eq_true k2, imustW, bsR_i, bsR_j, ap_S1, iuW, p_instr_pen_try_111110011001111_eq, isCell_B, cells_B, low_B, ih, cells_Z, isCell_Z, low_Z, stripC_Z, isTup_Z, strip_Z, List.append_assoc, List.cons_append, List.nil_append, Bool.or_assoc, Bool.not_true, Bool.not_false, Bool.or_false, Bool.false_or, Bool.true_or, Bool.or_true]
    · have eT : iTag l[i] = [] := if_neg k2
      rw [eT] at hs ih ⊢
      have k0 : 0 ≤ l[i].kind := by omega
      by_cases k3 : l[i].kind ≤ 3
      · by_cases kt : l[i].tag = 0
        · have eC : catchOk l[i] = true := by unfold catchOk; simp; omega
          have kt2 : (l[i].tag == 0) = true := beq_iff_eq.mpr kt
          rw [eC] at ih ⊢
          simp only [List.append_assoc, List.cons_append, List.nil_append, Bool.or_assoc, Bool.not_true, Bool.not_false, Bool.or_false, Bool.false_or, Bool.true_or, Bool.or_true] at ih
          simp (contextual := true) (dsimp := false) (disch := first | omega | (simp only [List.length_append, List.length_cons, List.length_nil]; omega)) only [↓kDown, kUp, ↓goDown, goUp, List.length_cons, List.length_nil, List.map_cons, List.map_nil, List.take_succ_cons, List.take_zero, List.drop_succ_cons, List.drop_zero, List.drop_nil, List.take_nil, List.cons_append, List.nil_append, List.append_nil, List.set_cons_zero, List.set_cons_succ, List.all_cons, List.all_nil, ↓reduceIte, reduceCtorEq, ge_iff_le, gt_iff_lt, eq_self_iff_true, beq_self_eq_true, beq_iff_eq, bne_iff_ne, ne_eq, ite_not, Int.reduceEq, Option.getD_some, Option.getD_none, ite_self, Nat.reduceAdd, Nat.reduceSub, Nat.reduceMul, Nat.reduceLeDiff, Nat.reduceEqDiff, Nat.reduceBEq, Nat.reduceBNe, Int.reduceLT, Int.reduceLE, Int.reduceAdd, Int.reduceSub, Int.reduceMul, Int.reduceNeg, Int.reduceNe, Int.reduceBEq, Int.reduceBNe, Int.reduceToNat, c1, hia, e1, eq_true k0, eq_true k3, k2, kt2, imustW, bsR_i, bsR_j, ap_S1, iuW, p_instr_pen_try_111110011001111_eq, isCell_B, cells_B, low_B, ih, cells_Z, isCell_Z, low_Z, stripC_Z, isTup_Z, strip_Z, List.append_assoc, List.cons_append, List.nil_append, Bool.or_assoc, Bool.not_true, Bool.not_false, Bool.or_false, Bool.false_or, Bool.true_or, Bool.or_true]
        · have eC : catchOk l[i] = false := by unfold catchOk; simp; omega
          have kt' : (l[i].tag == 0) = false := beq_false_of_ne kt
          rw [eC] at ih ⊢
          simp only [List.append_assoc, List.cons_append, List.nil_append, Bool.or_assoc, Bool.not_true, Bool.not_false, Bool.or_false, Bool.false_or, Bool.true_or, Bool.or_true] at ih
          simp (contextual := true) (dsimp := false) (disch := first | omega | (simp only [List.length_append, List.length_cons, List.length_nil]; omega)) only [↓kDown, kUp, ↓goDown, goUp, List.length_cons, List.length_nil, List.map_cons, List.map_nil, List.take_succ_cons, List.take_zero, List.drop_succ_cons, List.drop_zero, List.drop_nil, List.take_nil, List.cons_append, List.nil_append, List.append_nil, List.set_cons_zero, List.set_cons_succ, List.all_cons, List.all_nil, ↓reduceIte, reduceCtorEq, ge_iff_le, gt_iff_lt, eq_self_iff_true, beq_self_eq_true, beq_iff_eq, bne_iff_ne, ne_eq, ite_not, Int.reduceEq, Option.getD_some, Option.getD_none, ite_self, Nat.reduceAdd, Nat.reduceSub, Nat.reduceMul, Nat.reduceLeDiff, Nat.reduceEqDiff, Nat.reduceBEq, Nat.reduceBNe, Int.reduceLT, Int.reduceLE, Int.reduceAdd, Int.reduceSub, Int.reduceMul, Int.reduceNeg, Int.reduceNe, Int.reduceBEq, Int.reduceBNe, Int.reduceToNat, c1, hia, e1, eq_true k0, eq_true k3, k2, kt', imustW, bsR_i, bsR_j, ap_S1, iuW, p_instr_pen_try_111110011001111_eq, isCell_B, cells_B, low_B, ih, cells_Z, isCell_Z, low_Z, stripC_Z, isTup_Z, strip_Z, List.append_assoc, List.cons_append, List.nil_append, Bool.or_assoc, Bool.not_true, Bool.not_false, Bool.or_false, Bool.false_or, Bool.true_or, Bool.or_true]
      · have eC : catchOk l[i] = false := by unfold catchOk; simp; omega
        rw [eC] at ih ⊢
        simp only [List.append_assoc, List.cons_append, List.nil_append, Bool.or_assoc, Bool.not_true, Bool.not_false, Bool.or_false, Bool.false_or, Bool.true_or, Bool.or_true] at ih
        simp (contextual := true) (dsimp := false) (disch := first | omega | (simp only [List.length_append, List.length_cons, List.length_nil]; omega)) only [↓kDown, kUp, ↓goDown, goUp, List.length_cons, List.length_nil, List.map_cons, List.map_nil, List.take_succ_cons, List.take_zero, List.drop_succ_cons, List.drop_zero, List.drop_nil, List.take_nil, List.cons_append, List.nil_append, List.append_nil, List.set_cons_zero, List.set_cons_succ, List.all_cons, List.all_nil, ↓reduceIte, reduceCtorEq, ge_iff_le, gt_iff_lt, eq_self_iff_true, beq_self_eq_true, beq_iff_eq, bne_iff_ne, ne_eq, ite_not, Int.reduceEq, Option.getD_some, Option.getD_none, ite_self, Nat.reduceAdd, Nat.reduceSub, Nat.reduceMul, Nat.reduceLeDiff, Nat.reduceEqDiff, Nat.reduceBEq, Nat.reduceBNe, Int.reduceLT, Int.reduceLE, Int.reduceAdd, Int.reduceSub, Int.reduceMul, Int.reduceNeg, Int.reduceNe, Int.reduceBEq, Int.reduceBNe, Int.reduceToNat, c1, hia, e1, eq_true k0, k3, k2, imustW, bsR_i, bsR_j, ap_S1, iuW, p_instr_pen_try_111110011001111_eq, isCell_B, cells_B, low_B, ih, cells_Z, isCell_Z, low_Z, stripC_Z, isTup_Z, strip_Z, List.append_assoc, List.cons_append, List.nil_append, Bool.or_assoc, Bool.not_true, Bool.not_false, Bool.or_false, Bool.false_or, Bool.true_or, Bool.or_true]
end Go.Proofs.Ythidcpkcfoldmaa.Pi.Q
namespace Go.Proofs.Ythidcpkcfoldmaa.Pi.Q
open Go Go.Proofs.Ythidcpkcfoldmaa.Pi
set_option linter.unusedVariables false
set_option linter.unusedSimpArgs false
set_option maxRecDepth 100000
attribute [local congr] ite_congr
variable {c : Nat} {H : Heap} {L : List Box} {b : List UInt8} {f : Bool}
def iTry (v : IG) : IW := iCat (iEnt (eB v.block)) (iCat ([], !decide ((v.catches.l.length : Int) ≤ 65536)) (iCat (putU v.catches.l.length, false) (iAll iCatch v.catches.l)))
theorem itryW {v : IG} (hb : I64 v.block.res.heap) (hl : v.catches.l.length < 2 ^ 62) (hw : ∀ a ∈ v.catches.l, U32 a.tag ∧ U32 a.label) : IWr c (C k_instr_pen_try [.ptr c 0, .agg (cs_IG v)]) (iTry v) := IWr.mk fun H b f hc hs => by
  have he := fun K => eB_is (K := K) hb
  simp only [iTry, iCat, iEnt, List.length_append, List.length_nil] at hs ⊢
  obtain ⟨L', h⟩ := itry_loop (z := v.catches.z) hl hw v.catches.l.length 0 (b ++ ((eB v.block).1 ++ putU v.catches.l.length)) (f || (!((eB v.block).2 == 0) || !decide ((v.catches.l.length : Int) ≤ 65536))) [.cells (cs_IG v)] H (by omega) hc (by simp only [List.length_append, List.drop_zero]; omega)
  have e0 : ((0 : Nat) : Int) = 0 := rfl
  unfold cs_IG at h ⊢
  simp only [e0, List.drop_zero, List.append_assoc, Bool.or_assoc] at h
  have hln : ∀ K, run (lnL (LZ v.catches.z 3 (v.catches.l.map encCH))) K = some (.ok (.int .i64 v.catches.l.length) K) := fun K => by rw [ln_Z, List.length_map]
  rw [instr_pen_try_eq]
  simp (contextual := true) (dsimp := false) (disch := first | omega | (simp only [List.length_append, List.length_cons, List.length_nil, Int.toNat_natCast]; omega)) only [↓kDown, kUp, ↓goDown, goUp, List.length_cons, List.length_nil, List.map_cons, List.map_nil, List.take_succ_cons, List.take_zero, List.drop_succ_cons, List.drop_zero, List.drop_nil, List.take_nil, List.cons_append, List.nil_append, List.append_nil, List.set_cons_zero, List.set_cons_succ, List.all_cons, List.all_nil, ↓reduceIte, reduceCtorEq, ge_iff_le, gt_iff_lt, eq_self_iff_true, beq_self_eq_true, beq_iff_eq, bne_iff_ne, ne_eq, ite_not, Int.reduceEq, Option.getD_some, Option.getD_none, ite_self, Nat.reduceAdd, Nat.reduceSub, Nat.reduceMul, Nat.reduceLeDiff, Nat.reduceEqDiff, Nat.reduceBEq, Nat.reduceBNe, Int.reduceLT, Int.reduceLE, Int.reduceAdd, Int.reduceSub, Int.reduceMul, Int.reduceNeg, Int.reduceNe, Int.reduceBEq, Int.reduceBNe, Int.reduceToNat, toK (m := C k_entry_PutBlockType [.agg [.int .i64 v.block.ty, .int .i64 v.block.res.num, .bool v.block.res.nul, .int .i64 v.block.res.heap]]), he, iputW, hln, imustW, iuW, Int.toNat_natCast, h, encU_is, cells_Z, isCell_Z, low_Z, stripC_Z, isTup_Z, strip_Z, List.append_assoc, List.cons_append, List.nil_append, Bool.or_assoc, Bool.not_true, Bool.not_false, Bool.or_false, Bool.false_or, Bool.true_or, Bool.or_true]
def iMem (m : MG) : IW := ((if m.mem = 0 then putU m.align.toNat else putU (m.align + 64).toNat ++ putU m.mem.toNat) ++ putU m.off.toNat, !decide (m.align < 64))
theorem imemW {m : MG} (h1 : U32 m.align) (h2 : U32 m.mem) (h3 : 0 ≤ m.off ∧ m.off < 18446744073709551616) : IWr c (C k_instr_pen_mem [.ptr c 0, .agg [.int .u32 m.align, .int .u32 m.mem, .int .u64 m.off]]) (iMem m) := IWr.mk fun H b f hc hs => by
  obtain ⟨align, mem, off⟩ := m
  obtain ⟨a0, a1⟩ := h1
  obtain ⟨b0, b1⟩ := h2
  simp only [iMem] at a0 a1 b0 b1 h3 hs ⊢
  rw [instr_pen_mem_eq]
  by_cases hm : mem = 0
  · subst hm
    rw [if_pos rfl] at hs ⊢
    simp only [List.length_append] at hs
    simp (contextual := true) (dsimp := false) (disch := first | omega | (simp only [List.length_append, List.length_cons, List.length_nil, Int.toNat_natCast]; omega)) only [↓kDown, kUp, ↓goDown, goUp, List.length_cons, List.length_nil, List.map_cons, List.map_nil, List.take_succ_cons, List.take_zero, List.drop_succ_cons, List.drop_zero, List.drop_nil, List.take_nil, List.cons_append, List.nil_append, List.append_nil, List.set_cons_zero, List.set_cons_succ, List.all_cons, List.all_nil, ↓reduceIte, reduceCtorEq, ge_iff_le, gt_iff_lt, eq_self_iff_true, beq_self_eq_true, beq_iff_eq, bne_iff_ne, ne_eq, ite_not, Int.reduceEq, Option.getD_some, Option.getD_none, ite_self, Nat.reduceAdd, Nat.reduceSub, Nat.reduceMul, Nat.reduceLeDiff, Nat.reduceEqDiff, Nat.reduceBEq, Nat.reduceBNe, Int.reduceLT, Int.reduceLE, Int.reduceAdd, Int.reduceSub, Int.reduceMul, Int.reduceNeg, Int.reduceNe, Int.reduceBEq, Int.reduceBNe, Int.reduceToNat, imustW, iuW, p_instr_pen_mem_111_eq, encU_is, List.append_assoc]
  · rw [if_neg hm] at hs ⊢
    simp only [List.length_append] at hs
    simp (contextual := true) (dsimp := false) (disch := first | omega | (simp only [List.length_append, List.length_cons, List.length_nil, Int.toNat_natCast]; omega)) only [↓kDown, kUp, ↓goDown, goUp, List.length_cons, List.length_nil, List.map_cons, List.map_nil, List.take_succ_cons, List.take_zero, List.drop_succ_cons, List.drop_zero, List.drop_nil, List.take_nil, List.cons_append, List.nil_append, List.append_nil, List.set_cons_zero, List.set_cons_succ, List.all_cons, List.all_nil, ↓reduceIte, reduceCtorEq, ge_iff_le, gt_iff_lt, eq_self_iff_true, beq_self_eq_true, beq_iff_eq, bne_iff_ne, ne_eq, ite_not, Int.reduceEq, Option.getD_some, Option.getD_none, ite_self, Nat.reduceAdd, Nat.reduceSub, Nat.reduceMul, Nat.reduceLeDiff, Nat.reduceEqDiff, Nat.reduceBEq, Nat.reduceBNe, Int.reduceLT, Int.reduceLE, Int.reduceAdd, Int.reduceSub, Int.reduceMul, Int.reduceNeg, Int.reduceNe, Int.reduceBEq, Int.reduceBNe, Int.reduceToNat, hm, imustW, iuW, p_instr_pen_mem_111_eq, encU_is, List.append_assoc]
def iConst (fm : Nat) (n : Int) : IW :=
  (if fm = 9 then putS (IntKind.i32.wrap n) else if fm = 10 then putS (IntKind.i64.wrap n) else if fm = 11 then fixL 4 (IntKind.u32.wrap n) else if fm = 12 then fixL 8 n else [], if fm = 9 ∨ fm = 11 then !decide (n < 4294967296) else false)
theorem i32_range (n : Int) : -2147483648 ≤ IntKind.i32.wrap n ∧ IntKind.i32.wrap n ≤ 2147483647 := by rw [IntKind.wrap_i32]; omega
theorem i64_range (n : Int) : -9223372036854775808 ≤ IntKind.i64.wrap n ∧ IntKind.i64.wrap n ≤ 9223372036854775807 := by rw [IntKind.wrap_i64]; omega
theorem u32_range (n : Int) : 0 ≤ IntKind.u32.wrap n ∧ IntKind.u32.wrap n ≤ 4294967295 := by rw [show IntKind.u32.wrap n = n % 4294967296 by simp only [IntKind.wrap, IntKind.signed, IntKind.bits]; simp]; omega
theorem iconstW {fm : Nat} {n : Int} (hf : fm = 1 ∨ fm = 9 ∨ fm = 10 ∨ fm = 11 ∨ fm = 12) (h0 : 0 ≤ n) (h1 : n < 18446744073709551616) : IWr c (C k_instr_pen_constant [.ptr c 0, .int .i64 fm, .int .u64 n]) (iConst fm n) := IWr.mk fun H b f hc hs => by
  obtain ⟨r1, r2⟩ := i32_range n
  obtain ⟨r3, r4⟩ := i64_range n
  obtain ⟨r5, r6⟩ := u32_range n
  have p1 := fun K => putS_is (H := K) (n := IntKind.i32.wrap n) (by omega) (by omega)
  have p2 := fun K => putS_is (H := K) (n := IntKind.i64.wrap n) r3 r4
  have p3 := fun K => putF32_is (n := IntKind.u32.wrap n) (K := K) r5 r6
  have p4 := fun K => putF64_is (n := n) (K := K) h0
  have w1 : IntKind.i64.wrap (IntKind.i32.wrap n) = IntKind.i32.wrap n := w_i64 (by omega)
  rw [instr_pen_constant_eq]
  rcases hf with rfl | rfl | rfl | rfl | rfl <;> simp only [iConst] at hs ⊢
  · have e1 : ((1 : Nat) : Int) = 1 := rfl
    simp (contextual := true) (dsimp := false) (disch := omega) only [↓kDown, kUp, ↓goDown, goUp, List.length_cons, List.length_nil, List.map_cons, List.map_nil, List.take_succ_cons, List.take_zero, List.drop_succ_cons, List.drop_zero, List.drop_nil, List.take_nil, List.cons_append, List.nil_append, List.append_nil, List.set_cons_zero, List.set_cons_succ, List.all_cons, List.all_nil, ↓reduceIte, reduceCtorEq, ge_iff_le, gt_iff_lt, eq_self_iff_true, beq_self_eq_true, beq_iff_eq, bne_iff_ne, ne_eq, ite_not, Int.reduceEq, Option.getD_some, Option.getD_none, ite_self, Nat.reduceAdd, Nat.reduceSub, Nat.reduceMul, Nat.reduceLeDiff, Nat.reduceEqDiff, Nat.reduceBEq, Nat.reduceBNe, Int.reduceLT, Int.reduceLE, Int.reduceAdd, Int.reduceSub, Int.reduceMul, Int.reduceNeg, Int.reduceNe, Int.reduceBEq, Int.reduceBNe, Int.reduceToNat, e1, imustW, encU_is, List.append_nil, Nat.reduceEqDiff, or_self, Bool.not_true, Bool.or_false]
  · have e1 : ((9 : Nat) : Int) = 9 := rfl
    simp only [if_pos] at hs
    simp (contextual := true) (dsimp := false) (disch := omega) only [↓kDown, kUp, ↓goDown, goUp, List.length_cons, List.length_nil, List.map_cons, List.map_nil, List.take_succ_cons, List.take_zero, List.drop_succ_cons, List.drop_zero, List.drop_nil, List.take_nil, List.cons_append, List.nil_append, List.append_nil, List.set_cons_zero, List.set_cons_succ, List.all_cons, List.all_nil, ↓reduceIte, reduceCtorEq, ge_iff_le, gt_iff_lt, eq_self_iff_true, beq_self_eq_true, beq_iff_eq, bne_iff_ne, ne_eq, ite_not, Int.reduceEq, Option.getD_some, Option.getD_none, ite_self, Nat.reduceAdd, Nat.reduceSub, Nat.reduceMul, Nat.reduceLeDiff, Nat.reduceEqDiff, Nat.reduceBEq, Nat.reduceBNe, Int.reduceLT, Int.reduceLE, Int.reduceAdd, Int.reduceSub, Int.reduceMul, Int.reduceNeg, Int.reduceNe, Int.reduceBEq, Int.reduceBNe, Int.reduceToNat, e1, imustW, w1, p1, ap_Su, isCell_B, cells_B, low_B, encU_is, Nat.reduceEqDiff, or_false, true_or]
  · have e1 : ((10 : Nat) : Int) = 10 := rfl
    simp only [Nat.reduceEqDiff, ↓reduceIte] at hs
    simp (contextual := true) (dsimp := false) (disch := omega) only [↓kDown, kUp, ↓goDown, goUp, List.length_cons, List.length_nil, List.map_cons, List.map_nil, List.take_succ_cons, List.take_zero, List.drop_succ_cons, List.drop_zero, List.drop_nil, List.take_nil, List.cons_append, List.nil_append, List.append_nil, List.set_cons_zero, List.set_cons_succ, List.all_cons, List.all_nil, ↓reduceIte, reduceCtorEq, ge_iff_le, gt_iff_lt, eq_self_iff_true, beq_self_eq_true, beq_iff_eq, bne_iff_ne, ne_eq, ite_not, Int.reduceEq, Option.getD_some, Option.getD_none, ite_self, Nat.reduceAdd, Nat.reduceSub, Nat.reduceMul, Nat.reduceLeDiff, Nat.reduceEqDiff, Nat.reduceBEq, Nat.reduceBNe, Int.reduceLT, Int.reduceLE, Int.reduceAdd, Int.reduceSub, Int.reduceMul, Int.reduceNeg, Int.reduceNe, Int.reduceBEq, Int.reduceBNe, Int.reduceToNat, e1, imustW, p2, ap_Su, isCell_B, cells_B, low_B, encU_is, Nat.reduceEqDiff, or_self, Bool.not_true, Bool.or_false]
  · have e1 : ((11 : Nat) : Int) = 11 := rfl
    simp only [Nat.reduceEqDiff, ↓reduceIte] at hs
    simp (contextual := true) (dsimp := false) (disch := omega) only [↓kDown, kUp, ↓goDown, goUp, List.length_cons, List.length_nil, List.map_cons, List.map_nil, List.take_succ_cons, List.take_zero, List.drop_succ_cons, List.drop_zero, List.drop_nil, List.take_nil, List.cons_append, List.nil_append, List.append_nil, List.set_cons_zero, List.set_cons_succ, List.all_cons, List.all_nil, ↓reduceIte, reduceCtorEq, ge_iff_le, gt_iff_lt, eq_self_iff_true, beq_self_eq_true, beq_iff_eq, bne_iff_ne, ne_eq, ite_not, Int.reduceEq, Option.getD_some, Option.getD_none, ite_self, Nat.reduceAdd, Nat.reduceSub, Nat.reduceMul, Nat.reduceLeDiff, Nat.reduceEqDiff, Nat.reduceBEq, Nat.reduceBNe, Int.reduceLT, Int.reduceLE, Int.reduceAdd, Int.reduceSub, Int.reduceMul, Int.reduceNeg, Int.reduceNe, Int.reduceBEq, Int.reduceBNe, Int.reduceToNat, e1, imustW, p3, ap_Su, isCell_B, cells_B, low_B, encU_is, Nat.reduceEqDiff, or_true]
  · have e1 : ((12 : Nat) : Int) = 12 := rfl
    simp only [Nat.reduceEqDiff, ↓reduceIte] at hs
    simp (contextual := true) (dsimp := false) (disch := omega) only [↓kDown, kUp, ↓goDown, goUp, List.length_cons, List.length_nil, List.map_cons, List.map_nil, List.take_succ_cons, List.take_zero, List.drop_succ_cons, List.drop_zero, List.drop_nil, List.take_nil, List.cons_append, List.nil_append, List.append_nil, List.set_cons_zero, List.set_cons_succ, List.all_cons, List.all_nil, ↓reduceIte, reduceCtorEq, ge_iff_le, gt_iff_lt, eq_self_iff_true, beq_self_eq_true, beq_iff_eq, bne_iff_ne, ne_eq, ite_not, Int.reduceEq, Option.getD_some, Option.getD_none, ite_self, Nat.reduceAdd, Nat.reduceSub, Nat.reduceMul, Nat.reduceLeDiff, Nat.reduceEqDiff, Nat.reduceBEq, Nat.reduceBNe, Int.reduceLT, Int.reduceLE, Int.reduceAdd, Int.reduceSub, Int.reduceMul, Int.reduceNeg, Int.reduceNe, Int.reduceBEq, Int.reduceBNe, Int.reduceToNat, e1, imustW, p4, ap_Su, isCell_B, cells_B, low_B, encU_is, Nat.reduceEqDiff, or_self, Bool.not_true, Bool.or_false]
theorem shl0 : bi .shl .none (.int .u8 1) (.int .i64 0) = M.pure (.int .u8 1) := nrfl rfl
theorem shl1 : bi .shl .none (.int .u8 1) (.int .i64 1) = M.pure (.int .u8 2) := nrfl rfl
theorem or01 : bi .or .none (.int .u8 0) (.int .u8 1) = M.pure (.int .u8 1) := nrfl rfl
theorem or02 : bi .or .none (.int .u8 0) (.int .u8 2) = M.pure (.int .u8 2) := nrfl rfl
theorem or12 : bi .or .none (.int .u8 1) (.int .u8 2) = M.pure (.int .u8 3) := nrfl rfl
def boxV (v : VT) : Box := .cells [.int .i64 v.num, .bool v.nul, .int .i64 v.heap]
def castStep (i : Nat) (v : VT) (x : Int) : Int := if v.nul = true then (if i = 0 then 1 else if i = 1 then x + 2 else x) else x
theorem cast_step {z : Bool} {l : List VT} {v3 : PV} {i : Nat} {v : VT} {x : Int} (hl : l.length < 2 ^ 62) (hv : l[i]? = some v) (hx : x = 0 ∨ x = 1 ∧ 1 ≤ i ∨ 2 ≤ i) {bx : Box} (hc : c < List.length H) :
    runK c (p_instr_pen_brCast_11010 (.ptr c 0) v3 (.int .u8 x) (LZ z 3 (l.map encV)) (.int .i64 l.length) (.int .i64 i)) (St H c bx L) = runK c (p_instr_pen_brCast_11010 (.ptr c 0) v3 (.int .u8 (castStep i v x)) (LZ z 3 (l.map encV)) (.int .i64 l.length) (.int .i64 (i + 1 : Nat))) (St H c bx (L ++ [boxV v])) := by
  have hil : i < l.length := (List.getElem?_eq_some_iff.mp hv).1
  have c1 : (i : Int) < l.length := by omega
  have hg : (l.map encV)[i]? = some (encV v) := by rw [List.getElem?_map, hv]; rfl
  have hia : ∀ K, run (iaS 3 (LZ z 3 (l.map encV)) (.int .i64 i)) K = some (.ok (.elem [.int .i64 v.num, .bool v.nul, .int .i64 v.heap]) K) := fun K => (ia_Z hg).trans rfl
  have e1 : ((i : Int) + 1) = ((i + 1 : Nat) : Int) := rfl
  have hS : St H c bx (L ++ [boxV v]) = St (hadd H L) c bx [boxV v] := (St_out rfl hc).symm
  rw [hS, St_flat hc]
  have hc' : c < List.length (hadd H L) := by rw [len_add]; omega
  generalize hadd H L = K at hc'
  rw [p_instr_pen_brCast_11010_eq]
  unfold castStep boxV
  cases hn : v.nul with
  | false =>
    rw [hn] at hia
    simp (contextual := true) (dsimp := false) (disch := omega) only [↓kDown, kUp, ↓goDown, goUp, List.length_cons, List.length_nil, List.map_cons, List.map_nil, List.take_succ_cons, List.take_zero, List.drop_succ_cons, List.drop_zero, List.drop_nil, List.take_nil, List.cons_append, List.nil_append, List.append_nil, List.set_cons_zero, List.set_cons_succ, List.all_cons, List.all_nil, ↓reduceIte, reduceCtorEq, ge_iff_le, gt_iff_lt, eq_self_iff_true, beq_self_eq_true, beq_iff_eq, bne_iff_ne, ne_eq, ite_not, Int.reduceEq, Option.getD_some, Option.getD_none, ite_self, Nat.reduceAdd, Nat.reduceSub, Nat.reduceMul, Nat.reduceLeDiff, Nat.reduceEqDiff, Nat.reduceBEq, Nat.reduceBNe, Int.reduceLT, Int.reduceLE, Int.reduceAdd, Int.reduceSub, Int.reduceMul, Int.reduceNeg, Int.reduceNe, Int.reduceBEq, Int.reduceBNe, Int.reduceToNat, c1, hia, p_instr_pen_brCast_110100111_eq, e1, strip_Z]
  | true =>
    rw [hn] at hia
    by_cases i0 : i = 0
    · subst i0
      have hx0 : x = 0 := by omega
      subst hx0
      have e0 : ((0 : Nat) : Int) = 0 := rfl
      have e2 : ((0 + 1 : Nat) : Int) = 1 := rfl
      rw [e0] at c1 hia
      simp (contextual := true) (dsimp := false) (disch := omega) only [↓kDown, kUp, ↓goDown, goUp, List.length_cons, List.length_nil, List.map_cons, List.map_nil, List.take_succ_cons, List.take_zero, List.drop_succ_cons, List.drop_zero, List.drop_nil, List.take_nil, List.cons_append, List.nil_append, List.append_nil, List.set_cons_zero, List.set_cons_succ, List.all_cons, List.all_nil, ↓reduceIte, reduceCtorEq, ge_iff_le, gt_iff_lt, eq_self_iff_true, beq_self_eq_true, beq_iff_eq, bne_iff_ne, ne_eq, ite_not, Int.reduceEq, Option.getD_some, Option.getD_none, ite_self, Nat.reduceAdd, Nat.reduceSub, Nat.reduceMul, Nat.reduceLeDiff, Nat.reduceEqDiff, Nat.reduceBEq, Nat.reduceBNe, Int.reduceLT, Int.reduceLE, Int.reduceAdd, Int.reduceSub, Int.reduceMul, Int.reduceNeg, Int.reduceNe, Int.reduceBEq, Int.reduceBNe, Int.reduceToNat, e0, e2, c1, hia, shl0, or01, p_instr_pen_brCast_110100111_eq, strip_Z, Nat.zero_add]
    · by_cases i1 : i = 1
      · subst i1
        have e0 : ((1 : Nat) : Int) = 1 := rfl
        have e2 : ((1 + 1 : Nat) : Int) = 2 := rfl
        rw [e0] at c1 hia
        have hx1 : x = 0 ∨ x = 1 := by omega
        rcases hx1 with rfl | rfl <;>
          simp (contextual := true) (dsimp := false) (disch := omega) only [↓kDown, kUp, ↓goDown, goUp, List.length_cons, List.length_nil, List.map_cons, List.map_nil, List.take_succ_cons, List.take_zero, List.drop_succ_cons, List.drop_zero, List.drop_nil, List.take_nil, List.cons_append, List.nil_append, List.append_nil, List.set_cons_zero, List.set_cons_succ, List.all_cons, List.all_nil, ↓reduceIte, reduceCtorEq, ge_iff_le, gt_iff_lt, eq_self_iff_true, beq_self_eq_true, beq_iff_eq, bne_iff_ne, ne_eq, ite_not, Int.reduceEq, Option.getD_some, Option.getD_none, ite_self, Nat.reduceAdd, Nat.reduceSub, Nat.reduceMul, Nat.reduceLeDiff, Nat.reduceEqDiff, Nat.reduceBEq, Nat.reduceBNe, Int.reduceLT, Int.reduceLE, Int.reduceAdd, Int.reduceSub, Int.reduceMul, Int.reduceNeg, Int.reduceNe, Int.reduceBEq, Int.reduceBNe, Int.reduceToNat, e0, e2, c1, hia, shl1, or02, or12, p_instr_pen_brCast_110100111_eq, strip_Z]
      · have c2 : ¬ (i : Int) < 2 := by omega
        simp (contextual := true) (dsimp := false) (disch := omega) only [↓kDown, kUp, ↓goDown, goUp, List.length_cons, List.length_nil, List.map_cons, List.map_nil, List.take_succ_cons, List.take_zero, List.drop_succ_cons, List.drop_zero, List.drop_nil, List.take_nil, List.cons_append, List.nil_append, List.append_nil, List.set_cons_zero, List.set_cons_succ, List.all_cons, List.all_nil, ↓reduceIte, reduceCtorEq, ge_iff_le, gt_iff_lt, eq_self_iff_true, beq_self_eq_true, beq_iff_eq, bne_iff_ne, ne_eq, ite_not, Int.reduceEq, Option.getD_some, Option.getD_none, ite_self, Nat.reduceAdd, Nat.reduceSub, Nat.reduceMul, Nat.reduceLeDiff, Nat.reduceEqDiff, Nat.reduceBEq, Nat.reduceBNe, Int.reduceLT, Int.reduceLE, Int.reduceAdd, Int.reduceSub, Int.reduceMul, Int.reduceNeg, Int.reduceNe, Int.reduceBEq, Int.reduceBNe, Int.reduceToNat, c1, c2, i0, i1, hia, p_instr_pen_brCast_110100111_eq, e1, strip_Z]
def castC (l : List VT) : Int := (if ((l[0]?.map (·.nul)).getD false) = true then 1 else 0) + (if ((l[1]?.map (·.nul)).getD false) = true then 2 else 0)
def iCasts (x : Int) (l : List VT) (c0 : Int) : IW := iCat ([iByte c0], false) (iCat (putU x.toNat, false) (iRefs l 2))
theorem cast_end {z : Bool} {v : IG} {x : Int} {i : Nat} (hl : v.types.l.length < 2 ^ 62) (hw : ∀ a ∈ v.types.l, I64 a.heap) (hxx : U32 v.x) (hx : 0 ≤ x ∧ x ≤ 255) (hi : v.types.l.length ≤ i) (hc : c < List.length H) (hs : b.length + (iCasts v.x v.types.l x).1.length ≤ 140737488355328) {R : List Box} :
    runK c (p_instr_pen_brCast_11010 (.ptr c 0) (.ptr (List.length H) 0) (.int .u8 x) (LZ z 3 (v.types.l.map encV)) (.int .i64 v.types.l.length) (.int .i64 i)) (St H c (.cells [accB b, .bool f]) (.cells (cs_IG v) :: R)) = some (.ok (.tup []) (St H c (.cells [accB (b ++ (iCasts v.x v.types.l x).1), .bool (f || (iCasts v.x v.types.l x).2)]) (.cells (cs_IG v) :: R))) := by
  have c1 : ¬ (i : Int) < v.types.l.length := by omega
  have hb := fun K => bsR_j (n := x) (K := K) hx
  have hr := @irefsW c v.types.z v.types.l 2 hl hw
  unfold IWr at hr
  obtain ⟨x0, x1⟩ := hxx
  rw [p_instr_pen_brCast_11010_eq]
  simp only [iCasts, iCat, List.length_append, List.length_cons, List.length_nil] at hs ⊢
  unfold cs_IG
  simp (contextual := true) (dsimp := false) (disch := first | omega | (simp only [List.length_append, List.length_cons, List.length_nil, Int.toNat_natCast]; omega)) only [↓kDown, kUp, ↓goDown, goUp, List.length_cons, List.length_nil, List.map_cons, List.map_nil, List.take_succ_cons, List.take_zero, List.drop_succ_cons, List.drop_zero, List.drop_nil, List.take_nil, List.cons_append, List.nil_append, List.append_nil, List.set_cons_zero, List.set_cons_succ, List.all_cons, List.all_nil, ↓reduceIte, reduceCtorEq, ge_iff_le, gt_iff_lt, eq_self_iff_true, beq_self_eq_true, beq_iff_eq, bne_iff_ne, ne_eq, ite_not, Int.reduceEq, Option.getD_some, Option.getD_none, ite_self, Nat.reduceAdd, Nat.reduceSub, Nat.reduceMul, Nat.reduceLeDiff, Nat.reduceEqDiff, Nat.reduceBEq, Nat.reduceBNe, Int.reduceLT, Int.reduceLE, Int.reduceAdd, Int.reduceSub, Int.reduceMul, Int.reduceNeg, Int.reduceNe, Int.reduceBEq, Int.reduceBNe, Int.reduceToNat, c1, hb, ap_S1, iuW, hr, isCell_B, cells_B, low_B, encU_is, cells_Z, isCell_Z, low_Z, stripC_Z, isTup_Z, strip_Z, List.append_assoc, Bool.or_assoc, Bool.false_or]
end Go.Proofs.Ythidcpkcfoldmaa.Pi.Q
namespace Go.Proofs.Ythidcpkcfoldmaa.Pi.Q
open Go Go.Proofs.Ythidcpkcfoldmaa.Pi
set_option linter.unusedVariables false
set_option linter.unusedSimpArgs false
set_option maxRecDepth 100000
attribute [local congr] ite_congr
variable {c : Nat} {H : Heap} {L : List Box} {b : List UInt8} {f : Bool}
theorem cast_rest {z : Bool} {l : List VT} {v3 : PV} {x : Int} {bx : Box} (hl : l.length < 2 ^ 62) (hc : c < List.length H) : ∀ (m i : Nat) (L : List Box), 2 ≤ i → i + m = l.length →
    ∃ R, runK c (p_instr_pen_brCast_11010 (.ptr c 0) v3 (.int .u8 x) (LZ z 3 (l.map encV)) (.int .i64 l.length) (.int .i64 i)) (St H c bx L) = runK c (p_instr_pen_brCast_11010 (.ptr c 0) v3 (.int .u8 x) (LZ z 3 (l.map encV)) (.int .i64 l.length) (.int .i64 l.length)) (St H c bx (L ++ R))
  | 0, i, L, h2, hi => ⟨[], by rw [List.append_nil, show i = l.length by omega]⟩
  | m + 1, i, L, h2, hi => by
    have hil : i < l.length := by omega
    obtain ⟨R, ih⟩ := cast_rest (z := z) (v3 := v3) (x := x) (bx := bx) hl hc m (i + 1) (L ++ [boxV l[i]]) (by omega) (by omega)
    refine ⟨[boxV l[i]] ++ R, ?_⟩
    rw [cast_step hl (List.getElem?_eq_getElem hil) (.inr (.inr h2)) hc]
    have e : castStep i l[i] x = x := by unfold castStep; rw [if_neg (show ¬ i = 0 by omega), if_neg (show ¬ i = 1 by omega)]; split <;> rfl
    rw [e, ih, List.append_assoc]
theorem cast_all {z : Bool} {l : List VT} {v3 : PV} {bx : Box} (hl : l.length < 2 ^ 62) (hc : c < List.length H) :
    ∃ R, runK c (p_instr_pen_brCast_11010 (.ptr c 0) v3 (.int .u8 0) (LZ z 3 (l.map encV)) (.int .i64 l.length) (.int .i64 0)) (St H c bx L) = runK c (p_instr_pen_brCast_11010 (.ptr c 0) v3 (.int .u8 (castC l)) (LZ z 3 (l.map encV)) (.int .i64 l.length) (.int .i64 l.length)) (St H c bx (L ++ R)) := by
  have e0 : ((0 : Nat) : Int) = 0 := rfl
  match l, hl with
  | [], hl => exact ⟨[], by rw [List.append_nil]; rfl⟩
  | [a], hl =>
    refine ⟨[boxV a], ?_⟩
    have h := cast_step (z := z) (l := [a]) (v3 := v3) (i := 0) (v := a) (x := 0) (L := L) (bx := bx) hl rfl (.inl rfl) hc
    rw [e0] at h
    rw [h]
    have e : castStep 0 a 0 = castC [a] := by unfold castStep castC; simp
    rw [e]
    rfl
  | a :: d :: r, hl =>
    have h := cast_step (z := z) (l := a :: d :: r) (v3 := v3) (i := 0) (v := a) (x := 0) (L := L) (bx := bx) hl rfl (.inl rfl) hc
    have h1 := cast_step (z := z) (l := a :: d :: r) (v3 := v3) (i := 1) (v := d) (x := castStep 0 a 0) (L := L ++ [boxV a]) (bx := bx) hl rfl (by unfold castStep; cases a.nul <;> simp) hc
    obtain ⟨R, h2⟩ := cast_rest (z := z) (l := a :: d :: r) (v3 := v3) (x := castStep 1 d (castStep 0 a 0)) (bx := bx) hl hc r.length 2 (L ++ [boxV a] ++ [boxV d]) (by omega) (by simp; omega)
    refine ⟨[boxV a] ++ ([boxV d] ++ R), ?_⟩
    rw [e0] at h
    rw [h]
    rw [show (0 + 1 : Nat) = 1 from rfl, h1, show (1 + 1 : Nat) = 2 from rfl, h2]
    have e : castStep 1 d (castStep 0 a 0) = castC (a :: d :: r) := by
      unfold castStep castC
      cases ha : a.nul <;> cases hd : d.nul <;> simp [ha, hd]
    rw [e, List.append_assoc, List.append_assoc]
theorem castC_range (l : List VT) : 0 ≤ castC l ∧ castC l ≤ 255 := by
  unfold castC
  constructor <;> (split <;> split <;> omega)
theorem ibrCastW {v : IG} (hl : v.types.l.length < 2 ^ 62) (hw : ∀ a ∈ v.types.l, I64 a.heap) (hxx : U32 v.x) : IWr c (C k_instr_pen_brCast [.ptr c 0, .agg (cs_IG v)]) (iCasts v.x v.types.l (castC v.types.l)) := IWr.mk fun H b f hc hs => by
  obtain ⟨R, h1⟩ := cast_all (c := c) (H := H) (L := [.cells (cs_IG v)]) (z := v.types.z) (l := v.types.l) (v3 := .ptr (List.length H) 0) (bx := .cells [accB b, .bool f]) hl hc
  have h2 := cast_end (z := v.types.z) (v := v) (x := castC v.types.l) (i := v.types.l.length) (f := f) (R := R) hl hw hxx (castC_range _) (Nat.le_refl _) hc hs
  have h := h1.trans h2
  have hln : ∀ K, run (lnL (LZ v.types.z 3 (v.types.l.map encV))) K = some (.ok (.int .i64 v.types.l.length) K) := fun K => by rw [ln_Z, List.length_map]
  unfold cs_IG at h ⊢
  rw [instr_pen_brCast_eq]
  simp (contextual := true) (dsimp := false) (disch := omega) only [↓kDown, kUp, ↓goDown, goUp, List.length_cons, List.length_nil, List.map_cons, List.map_nil, List.take_succ_cons, List.take_zero, List.drop_succ_cons, List.drop_zero, List.drop_nil, List.take_nil, List.cons_append, List.nil_append, List.append_nil, List.set_cons_zero, List.set_cons_succ, List.all_cons, List.all_nil, ↓reduceIte, reduceCtorEq, ge_iff_le, gt_iff_lt, eq_self_iff_true, beq_self_eq_true, beq_iff_eq, bne_iff_ne, ne_eq, ite_not, Int.reduceEq, Option.getD_some, Option.getD_none, ite_self, Nat.reduceAdd, Nat.reduceSub, Nat.reduceMul, Nat.reduceLeDiff, Nat.reduceEqDiff, Nat.reduceBEq, Nat.reduceBNe, Int.reduceLT, Int.reduceLE, Int.reduceAdd, Int.reduceSub, Int.reduceMul, Int.reduceNeg, Int.reduceNe, Int.reduceBEq, Int.reduceBNe, Int.reduceToNat, hln, h, cells_Z, isCell_Z, low_Z, stripC_Z, isTup_Z, strip_Z]
def iVal (v : VT) : IW := ((eV v).1, !((eV v).2 == 0))
theorem ivals_loop {z : Bool} {l : List VT} {v4 : PV} (hl : l.length < 2 ^ 62) (hw : ∀ v ∈ l, I64 v.heap) : ∀ (m i : Nat) (b : List UInt8) (f : Bool) (L : List Box) (H : Heap), i + m = l.length → c < List.length H → b.length + (iAll iVal (l.drop i)).1.length ≤ 140737488355328 →
    ∃ L', runK c (p_instr_pen_lists_101011010 (.ptr c 0) v4 (LZ z 3 (l.map encV)) (.int .i64 l.length) (.int .i64 i)) (St H c (.cells [accB b, .bool f]) L) = some (.ok (.tup []) (St H c (.cells [accB (b ++ (iAll iVal (l.drop i)).1), .bool (f || (iAll iVal (l.drop i)).2)]) L'))
  | 0, i, b, f, L, H, hi, hc, hs => by
    have c1 : ¬ (i : Int) < l.length := by omega
    have e0 : l.drop i = [] := List.drop_eq_nil_of_le (by omega)
    refine ⟨L, ?_⟩
    rw [e0, p_instr_pen_lists_101011010_eq]
    simp (contextual := true) (dsimp := false) (disch := omega) only [↓kDown, kUp, ↓goDown, goUp, List.length_cons, List.length_nil, List.map_cons, List.map_nil, List.take_succ_cons, List.take_zero, List.drop_succ_cons, List.drop_zero, List.drop_nil, List.take_nil, List.cons_append, List.nil_append, List.append_nil, List.set_cons_zero, List.set_cons_succ, List.all_cons, List.all_nil, ↓reduceIte, reduceCtorEq, ge_iff_le, gt_iff_lt, eq_self_iff_true, beq_self_eq_true, beq_iff_eq, bne_iff_ne, ne_eq, ite_not, Int.reduceEq, Option.getD_some, Option.getD_none, ite_self, Nat.reduceAdd, Nat.reduceSub, Nat.reduceMul, Nat.reduceLeDiff, Nat.reduceEqDiff, Nat.reduceBEq, Nat.reduceBNe, Int.reduceLT, Int.reduceLE, Int.reduceAdd, Int.reduceSub, Int.reduceMul, Int.reduceNeg, Int.reduceNe, Int.reduceBEq, Int.reduceBNe, Int.reduceToNat, c1, iAll, encU_is, Bool.or_false]
  | m + 1, i, b, f, L, H, hi, hc, hs => by
    have c1 : (i : Int) < l.length := by omega
    have hil : i < l.length := by omega
    have hg : (l.map encV)[i]? = some (encV l[i]) := by simp [hil]
    have hia : ∀ K, run (iaS 3 (LZ z 3 (l.map encV)) (.int .i64 i)) K = some (.ok (.elem [.int .i64 l[i].num, .bool l[i].nul, .int .i64 l[i].heap]) K) := fun K => (ia_Z hg).trans rfl
    have hd : l.drop i = l[i] :: l.drop (i + 1) := List.drop_eq_getElem_cons hil
    have e1 : ((i : Int) + 1) = ((i + 1 : Nat) : Int) := rfl
    rw [hd] at hs ⊢
    simp only [iAll, iCat, iVal, List.length_append] at hs ⊢
    rw [St_flat hc]
    have hc' : c < List.length (hadd H L) := by rw [len_add]; omega
    have he := fun K => eV_is (K := K) (hw l[i] (List.getElem_mem hil))
    obtain ⟨L', ih⟩ := ivals_loop (z := z) (v4 := v4) hl hw m (i + 1) (b ++ (eV l[i]).1) (f || !((eV l[i]).2 == 0)) [boxV l[i]] (hadd H L) (by omega) hc' (by rw [List.length_append]; omega)
    refine ⟨L ++ L', ?_⟩
    have hS : ∀ x, St H c x (L ++ L') = St (hadd H L) c x L' := fun x => (St_out rfl hc).symm
    rw [hS]
    obtain ⟨K, hK⟩ : ∃ K, K = hadd H L := ⟨_, rfl⟩
    rw [← hK] at hc' ih ⊢
    unfold boxV at ih
    simp only [List.append_assoc, Bool.or_assoc] at ih
    rw [p_instr_pen_lists_101011010_eq]
    simp (contextual := true) (dsimp := false) (disch := omega) only [↓kDown, kUp, ↓goDown, goUp, List.length_cons, List.length_nil, List.map_cons, List.map_nil, List.take_succ_cons, List.take_zero, List.drop_succ_cons, List.drop_zero, List.drop_nil, List.take_nil, List.cons_append, List.nil_append, List.append_nil, List.set_cons_zero, List.set_cons_succ, List.all_cons, List.all_nil, ↓reduceIte, reduceCtorEq, ge_iff_le, gt_iff_lt, eq_self_iff_true, beq_self_eq_true, beq_iff_eq, bne_iff_ne, ne_eq, ite_not, Int.reduceEq, Option.getD_some, Option.getD_none, ite_self, Nat.reduceAdd, Nat.reduceSub, Nat.reduceMul, Nat.reduceLeDiff, Nat.reduceEqDiff, Nat.reduceBEq, Nat.reduceBNe, Int.reduceLT, Int.reduceLE, Int.reduceAdd, Int.reduceSub, Int.reduceMul, Int.reduceNeg, Int.reduceNe, Int.reduceBEq, Int.reduceBNe, Int.reduceToNat, c1, hia, e1, toK (m := C k_entry_PutValType [.agg [.int .i64 l[i].num, .bool l[i].nul, .int .i64 l[i].heap]]), he, iputW, ih, cells_Z, isCell_Z, low_Z, stripC_Z, isTup_Z, strip_Z, List.append_assoc, Bool.or_assoc]
def iNum (n : Int) : IW := (putU n.toNat, false)
theorem ilabs_loop {o : Bool} {l : List Int} (hl : l.length < 2 ^ 62) (hw : ∀ v ∈ l, U32 v) : ∀ (m i : Nat) (b : List UInt8) (f : Bool) (L : List Box) (H : Heap), i + m = l.length → c < List.length H → b.length + (iAll iNum (l.drop i)).1.length ≤ 140737488355328 →
    runK c (p_instr_pen_lists_111110 (.ptr c 0) (.slice o false 1 (l.map encU32)) (.int .i64 l.length) (.int .i64 i)) (St H c (.cells [accB b, .bool f]) L) = some (.ok (.tup []) (St H c (.cells [accB (b ++ (iAll iNum (l.drop i)).1), .bool (f || (iAll iNum (l.drop i)).2)]) L))
  | 0, i, b, f, L, H, hi, hc, hs => by
    have c1 : ¬ (i : Int) < l.length := by omega
    have e0 : l.drop i = [] := List.drop_eq_nil_of_le (by omega)
    rw [e0, p_instr_pen_lists_111110_eq]
    simp (contextual := true) (dsimp := false) (disch := omega) only [↓kDown, kUp, ↓goDown, goUp, List.length_cons, List.length_nil, List.map_cons, List.map_nil, List.take_succ_cons, List.take_zero, List.drop_succ_cons, List.drop_zero, List.drop_nil, List.take_nil, List.cons_append, List.nil_append, List.append_nil, List.set_cons_zero, List.set_cons_succ, List.all_cons, List.all_nil, ↓reduceIte, reduceCtorEq, ge_iff_le, gt_iff_lt, eq_self_iff_true, beq_self_eq_true, beq_iff_eq, bne_iff_ne, ne_eq, ite_not, Int.reduceEq, Option.getD_some, Option.getD_none, ite_self, Nat.reduceAdd, Nat.reduceSub, Nat.reduceMul, Nat.reduceLeDiff, Nat.reduceEqDiff, Nat.reduceBEq, Nat.reduceBNe, Int.reduceLT, Int.reduceLE, Int.reduceAdd, Int.reduceSub, Int.reduceMul, Int.reduceNeg, Int.reduceNe, Int.reduceBEq, Int.reduceBNe, Int.reduceToNat, c1, iAll, encU_is, Bool.or_false]
  | m + 1, i, b, f, L, H, hi, hc, hs => by
    have c1 : (i : Int) < l.length := by omega
    have hil : i < l.length := by omega
    have hg : (l.map encU32)[i]? = some (encU32 l[i]) := by simp [hil]
    have hia : ∀ K, run (iaS 1 (.slice o false 1 (l.map encU32)) (.int .i64 i)) K = some (.ok (.elem [.int .u32 l[i]]) K) := fun K => by
      rw [run_iaS (by omega), Int.toNat_natCast, hg]
      rfl
    have hd : l.drop i = l[i] :: l.drop (i + 1) := List.drop_eq_getElem_cons hil
    have e1 : ((i : Int) + 1) = ((i + 1 : Nat) : Int) := rfl
    obtain ⟨u0, u1⟩ := hw l[i] (List.getElem_mem hil)
    rw [hd] at hs ⊢
    simp only [iAll, iCat, iNum, List.length_append] at hs ⊢
    have ih := ilabs_loop (o := o) hl hw m (i + 1) (b ++ putU l[i].toNat) f L H (by omega) hc (by rw [List.length_append]; omega)
    simp only [List.append_assoc] at ih
    rw [p_instr_pen_lists_111110_eq]
    simp (contextual := true) (dsimp := false) (disch := omega) only [↓kDown, kUp, ↓goDown, goUp, List.length_cons, List.length_nil, List.map_cons, List.map_nil, List.take_succ_cons, List.take_zero, List.drop_succ_cons, List.drop_zero, List.drop_nil, List.take_nil, List.cons_append, List.nil_append, List.append_nil, List.set_cons_zero, List.set_cons_succ, List.all_cons, List.all_nil, ↓reduceIte, reduceCtorEq, ge_iff_le, gt_iff_lt, eq_self_iff_true, beq_self_eq_true, beq_iff_eq, bne_iff_ne, ne_eq, ite_not, Int.reduceEq, Option.getD_some, Option.getD_none, ite_self, Nat.reduceAdd, Nat.reduceSub, Nat.reduceMul, Nat.reduceLeDiff, Nat.reduceEqDiff, Nat.reduceBEq, Nat.reduceBNe, Int.reduceLT, Int.reduceLE, Int.reduceAdd, Int.reduceSub, Int.reduceMul, Int.reduceNeg, Int.reduceNe, Int.reduceBEq, Int.reduceBNe, Int.reduceToNat, c1, hia, e1, iuW, ih, List.append_assoc, Bool.false_or]
theorem grow4 {n : Nat} (h : n < 2 ^ 40) : growB 4 n = true := decide_eq_true (by show n * 4 ≤ _; omega)
theorem lab1 {z : Bool} {xs : List PV} {K : Heap} (hl : xs.length < 2 ^ 40) : run (ap true 1 4 (.slice false true 0 []) (LZ z 1 xs)) K = some (.ok (accP 1 xs) K) := by
  cases xs with
  | nil => cases z <;> rfl
  | cons a r =>
    have hg := grow4 hl
    have key : ap true 1 4 (.slice false true 0 []) (LZ z 1 (a :: r)) = (bif growB 4 (a :: r).length then M.pure (.slice true false 1 (a :: r)) else M.fail) := rfl
    rw [key, hg]
    rfl
theorem lab2 {xs : List PV} {y : PV} {K : Heap} (hl : xs.length < 2 ^ 39) : run (ap true 1 4 (accP 1 xs) (.slice true false 1 [y])) K = some (.ok (.slice true false 1 (xs ++ [y])) K) := by
  cases xs with
  | nil => rfl
  | cons a r =>
    have hg := grow4 (n := (a :: r).length + 1) (by omega)
    have key : ap true 1 4 (accP 1 (a :: r)) (.slice true false 1 [y]) = (bif growB 4 ((a :: r).length + 1) then M.pure (.slice true false 1 ((a :: r) ++ [y])) else M.fail) := rfl
    rw [key, hg]
    rfl
def iTypes (v : IG) : IW := iCat ([], !decide ((v.types.l.length : Int) ≤ 1000)) (iCat (putU v.types.l.length, false) (iAll iVal v.types.l))
def iLabels (v : IG) : IW := iCat ([], !decide ((v.labels.l.length : Int) ≤ 65536)) (iCat (putU v.labels.l.length, false) (iAll iNum (v.labels.l ++ [v.x])))
theorem itypesW {v : IG} (hl : v.types.l.length < 2 ^ 62) (hw : ∀ a ∈ v.types.l, I64 a.heap) : IWr c (C k_instr_pen_lists [.ptr c 0, .agg (cs_IG v), .int .i64 7]) (iTypes v) := IWr.mk fun H b f hc hs => by
  simp only [iTypes, iCat, List.length_append, List.length_nil] at hs ⊢
  obtain ⟨L', h⟩ := ivals_loop (z := v.types.z) (v4 := .ptr (List.length H) 0) hl hw v.types.l.length 0 (b ++ putU v.types.l.length) (f || !decide ((v.types.l.length : Int) ≤ 1000)) [.cells (cs_IG v)] H (by omega) hc (by simp only [List.length_append, List.drop_zero]; omega)
  have e0 : ((0 : Nat) : Int) = 0 := rfl
  unfold cs_IG at h ⊢
  simp only [e0, List.drop_zero, List.append_assoc, Bool.or_assoc] at h
  have hln : ∀ K, run (lnL (LZ v.types.z 3 (v.types.l.map encV))) K = some (.ok (.int .i64 v.types.l.length) K) := fun K => by rw [ln_Z, List.length_map]
  rw [instr_pen_lists_eq]
  simp (contextual := true) (dsimp := false) (disch := first | omega | (simp only [List.length_append, List.length_cons, List.length_nil, Int.toNat_natCast]; omega)) only [↓kDown, kUp, ↓goDown, goUp, List.length_cons, List.length_nil, List.map_cons, List.map_nil, List.take_succ_cons, List.take_zero, List.drop_succ_cons, List.drop_zero, List.drop_nil, List.take_nil, List.cons_append, List.nil_append, List.append_nil, List.set_cons_zero, List.set_cons_succ, List.all_cons, List.all_nil, ↓reduceIte, reduceCtorEq, ge_iff_le, gt_iff_lt, eq_self_iff_true, beq_self_eq_true, beq_iff_eq, bne_iff_ne, ne_eq, ite_not, Int.reduceEq, Option.getD_some, Option.getD_none, ite_self, Nat.reduceAdd, Nat.reduceSub, Nat.reduceMul, Nat.reduceLeDiff, Nat.reduceEqDiff, Nat.reduceBEq, Nat.reduceBNe, Int.reduceLT, Int.reduceLE, Int.reduceAdd, Int.reduceSub, Int.reduceMul, Int.reduceNeg, Int.reduceNe, Int.reduceBEq, Int.reduceBNe, Int.reduceToNat, hln, imustW, iuW, Int.toNat_natCast, h, encU_is, cells_Z, isCell_Z, low_Z, stripC_Z, isTup_Z, strip_Z, List.append_assoc, List.cons_append, List.nil_append, Bool.or_assoc, Bool.not_true, Bool.not_false, Bool.or_false, Bool.false_or, Bool.true_or, Bool.or_true]
theorem ilabelsW {v : IG} (hl : v.labels.l.length < 2 ^ 39) (hw : ∀ a ∈ v.labels.l, U32 a) (hx : U32 v.x) : IWr c (C k_instr_pen_lists [.ptr c 0, .agg (cs_IG v), .int .i64 6]) (iLabels v) := IWr.mk fun H b f hc hs => by
  simp only [iLabels, iCat, List.length_append, List.length_nil] at hs ⊢
  have h := ilabs_loop (o := true) (c := c) (l := v.labels.l ++ [v.x]) (by simp; omega) (fun a ha => by
    rcases List.mem_append.mp ha with h | h
    · exact hw a h
    · simp at h; subst h; exact hx) (v.labels.l ++ [v.x]).length 0 (b ++ putU v.labels.l.length) (f || !decide ((v.labels.l.length : Int) ≤ 65536)) [.cells (cs_IG v)] H (by omega) hc (by simp only [List.length_append, List.drop_zero]; omega)
  have e0 : ((0 : Nat) : Int) = 0 := rfl
  have h1 := fun K => lab1 (z := v.labels.z) (xs := v.labels.l.map encU32) (K := K) (by rw [List.length_map]; omega)
  have h2 := fun K => lab2 (xs := v.labels.l.map encU32) (y := .int .u32 v.x) (K := K) (by rw [List.length_map]; omega)
  have e2 : (v.labels.l ++ [v.x]).map encU32 = v.labels.l.map encU32 ++ [.int .u32 v.x] := by rw [List.map_append]; rfl
  unfold cs_IG at h ⊢
  simp only [e0, e2, List.drop_zero, List.append_assoc, Bool.or_assoc, List.length_append, List.length_cons, List.length_nil] at h
  have hln : ∀ K, run (lnL (LZ v.labels.z 1 (v.labels.l.map encU32))) K = some (.ok (.int .i64 v.labels.l.length) K) := fun K => by rw [ln_Z, List.length_map]
  have hbs : ∀ K, bsR true none [.int .u32 v.x] K = some (.ok (.slice true false 1 [.int .u32 v.x]) K) := fun K => rfl
  rw [instr_pen_lists_eq]
  simp (contextual := true) (dsimp := false) (disch := first | omega | (simp only [List.length_append, List.length_cons, List.length_nil, Int.toNat_natCast]; omega)) only [↓kDown, kUp, ↓goDown, goUp, List.length_cons, List.length_nil, List.map_cons, List.map_nil, List.take_succ_cons, List.take_zero, List.drop_succ_cons, List.drop_zero, List.drop_nil, List.take_nil, List.cons_append, List.nil_append, List.append_nil, List.set_cons_zero, List.set_cons_succ, List.all_cons, List.all_nil, ↓reduceIte, reduceCtorEq, ge_iff_le, gt_iff_lt, eq_self_iff_true, beq_self_eq_true, beq_iff_eq, bne_iff_ne, ne_eq, ite_not, Int.reduceEq, Option.getD_some, Option.getD_none, ite_self, Nat.reduceAdd, Nat.reduceSub, Nat.reduceMul, Nat.reduceLeDiff, Nat.reduceEqDiff, Nat.reduceBEq, Nat.reduceBNe, Int.reduceLT, Int.reduceLE, Int.reduceAdd, Int.reduceSub, Int.reduceMul, Int.reduceNeg, Int.reduceNe, Int.reduceBEq, Int.reduceBNe, Int.reduceToNat, hln, imustW, iuW, Int.toNat_natCast, h1, h2, hbs, List.length_map, List.length_append, h, encU_is, cells_Z, isCell_Z, low_Z, stripC_Z, isTup_Z, strip_Z, List.append_assoc, List.cons_append, List.nil_append, Bool.or_assoc, Bool.not_true, Bool.not_false, Bool.or_false, Bool.false_or, Bool.true_or, Bool.or_true]
end Go.Proofs.Ythidcpkcfoldmaa.Pi.Q
namespace Go.Proofs.Ythidcpkcfoldmaa.Pi.Q
open Go Go.Proofs.Ythidcpkcfoldmaa.Pi
set_option linter.unusedVariables false
set_option linter.unusedSimpArgs false
set_option maxRecDepth 100000
attribute [local congr] ite_congr
variable {c : Nat} {H : Heap} {L : List Box} {b : List UInt8} {f : Bool}
structure IG.w (v : IG) : Prop where
  op : I64 v.op
  x : U32 v.x
  y : U32 v.y
  n : 0 ≤ v.n ∧ v.n < 18446744073709551616
  al : U32 v.mem.align
  me : U32 v.mem.mem
  off : 0 ≤ v.mem.off ∧ v.mem.off < 18446744073709551616
  bt : I64 v.block.ty
  bh : I64 v.block.res.heap
  lab : ∀ a ∈ v.labels.l, U32 a
  ty : ∀ a ∈ v.types.l, I64 a.heap
  ca : ∀ a ∈ v.catches.l, U32 a.tag ∧ U32 a.label
  ll : v.labels.l.length < 2 ^ 39
  lt : v.types.l.length < 2 ^ 39
  lc : v.catches.l.length < 2 ^ 39
def oneNull (l : List VT) : Bool := match l with | [a] => a.nul | _ => false
def oneCast (odd : Bool) (l : List VT) : Bool := match l with | [a] => a.nul == odd | _ => false
def iBody (fm : Nat) (v : IG) : IW :=
  match fm with
  | 0 => ([], true)
  | 2 => iEnt (eB v.block)
  | 3 => iTry v
  | 4 => (putU v.x.toNat, false)
  | 5 => (putU v.x.toNat ++ putU v.y.toNat, false)
  | 6 => iLabels v
  | 7 => iTypes v
  | 8 => iMem v.mem
  | 13 => iCat (iRefs v.types.l 1) ([], !oneNull v.types.l)
  | 14 => iCat (iRefs v.types.l 1) ([], !oneCast (v.op % 2 == 1) v.types.l)
  | 15 => iCasts v.x v.types.l (castC v.types.l)
  | 16 => (putU v.x.toNat ++ putU v.n.toNat, !decide (v.n < 4294967296))
  | k => iConst k v.n
theorem imustI {ok : Bool} : IWr c (C k_instr_pen_must [.ptr c 0, .bool ok]) ([], !ok) := fun hc hs => by
  rw [imustW hc, List.append_nil]
theorem iuI {n : Int} (h0 : 0 ≤ n) (h1 : n < 18446744073709551616) : IWr c (C k_instr_pen_u [.ptr c 0, .int .u64 n]) (putU n.toNat, false) := fun hc hs => by
  rw [iuW h0 h1 hc hs, Bool.or_false]
theorem iputI {r : List UInt8 × Int} : IWr c (C k_instr_pen_put [.ptr c 0, LZ true 1 (bytes r.1), .int .i64 r.2]) (iEnt r) := fun hc hs => iputW hc hs
theorem St_3 {x y z : Box} : hadd H [x, y, z] = St (hadd H [x, y, .dead]) (List.length H + 2) z [] := by
  unfold St hadd hset
  rw [List.append_nil, List.set_append_right _ _ (by omega)]
  simp
theorem iw_use3 {m : M PV} {w : IW} {x y : Box} (h : IWr (List.length H + 2) m w) (hs : b.length + w.1.length ≤ 140737488355328) : run m (hadd H [x, y, .cells [accB b, .bool f]]) = some (.ok (.tup []) (hadd H [x, y, .cells [accB (b ++ w.1), .bool (f || w.2)]])) := by
  have := @h (hadd H [x, y, .dead]) [] b f (by rw [len_add]; simp) hs
  rw [← St_3, ← St_3] at this
  exact run_of_ok this
theorem and1 (n : Int) : IntKind.i64.wrap ((BitVec.ofInt IntKind.i64.bits n &&& BitVec.ofInt IntKind.i64.bits 1).toNat : Int) = n % 2 := by
  have h : (BitVec.ofInt IntKind.i64.bits n &&& BitVec.ofInt IntKind.i64.bits 1).toNat = (n % 2).toNat := by
    rw [BitVec.toNat_and, BitVec.toNat_ofInt, BitVec.toNat_ofInt, show IntKind.i64.bits = 64 from rfl]
    rw [show ((1 : Int) % ((2 ^ 64 : Nat) : Int)).toNat = 2 ^ 1 - 1 from rfl, Nat.and_two_pow_sub_one_eq_mod]
    omega
  rw [h, Int.toNat_of_nonneg (by omega)]
  exact w_i64 (by omega)
theorem and255 (n : Int) : IntKind.i64.wrap ((BitVec.ofInt IntKind.i64.bits n &&& BitVec.ofInt IntKind.i64.bits 255).toNat : Int) = n % 256 := by
  have h : (BitVec.ofInt IntKind.i64.bits n &&& BitVec.ofInt IntKind.i64.bits 255).toNat = (n % 256).toNat := by
    rw [BitVec.toNat_and, BitVec.toNat_ofInt, BitVec.toNat_ofInt, show IntKind.i64.bits = 64 from rfl]
    rw [show ((255 : Int) % ((2 ^ 64 : Nat) : Int)).toNat = 2 ^ 8 - 1 from rfl, Nat.and_two_pow_sub_one_eq_mod]
    omega
  rw [h, Int.toNat_of_nonneg (by omega)]
  exact w_i64 (by omega)
theorem iw_0 {v : IG} {nm : ByteArray} {o : Int} (hv : v.w) (hs : b.length + (iBody 0 v).1.length ≤ 140737488355328) :
    run (p_instr_Write_1111 (.ptr (List.length H) 0) (.slice false true 0 []) (.int .i64 0) (.ptr (List.length H + 1) 0) (.ptr (List.length H + 2) 0)) (hadd H [.cells (cs_IG v), .cells [.int .i64 o, .str nm, .int .i64 0], .cells [accB b, .bool f]]) =
    run (p_instr_Write_11111 (.slice false true 0 []) (.int .i64 0) (.ptr (List.length H + 2) 0)) (hadd H [.cells (cs_IG v), .cells [.int .i64 o, .str nm, .int .i64 0], .cells [accB (b ++ (iBody 0 v).1), .bool (f || (iBody 0 v).2)]]) := by
  obtain ⟨⟨x0, x1⟩, ⟨y0, y1⟩, ⟨n0, n1⟩⟩ := And.intro hv.x (And.intro hv.y hv.n)
  simp only [iBody] at hs ⊢
  have hm := fun (ok : Bool) (b : List UInt8) (f : Bool) (hs : b.length ≤ 140737488355328) => iw_use3 (imustI (c := List.length H + 2) (ok := ok)) (H := H) (x := .cells (cs_IG v)) (y := .cells [.int .i64 o, .str nm, .int .i64 0]) (b := b) (f := f) hs
  simp only [List.length_nil, Nat.add_zero] at hs
  unfold cs_IG at hm ⊢
  simp only [List.append_nil] at hm
  rw [p_instr_Write_1111_eq]
  simp (contextual := true) (dsimp := false) (disch := first | omega | (simp only [List.length_append, List.length_cons, List.length_nil, Int.toNat_natCast]; omega)) only [↓goDown, goUp, List.length_cons, List.length_nil, List.map_cons, List.map_nil, List.take_succ_cons, List.take_zero, List.drop_succ_cons, List.drop_zero, List.drop_nil, List.take_nil, List.cons_append, List.nil_append, List.append_nil, List.set_cons_zero, List.set_cons_succ, List.all_cons, List.all_nil, ↓reduceIte, reduceCtorEq, ge_iff_le, gt_iff_lt, eq_self_iff_true, beq_self_eq_true, beq_iff_eq, bne_iff_ne, ne_eq, ite_not, Int.reduceEq, Option.getD_some, Option.getD_none, ite_self, Nat.reduceAdd, Nat.reduceSub, Nat.reduceMul, Nat.reduceLeDiff, Nat.reduceEqDiff, Nat.reduceBEq, Nat.reduceBNe, Int.reduceLT, Int.reduceLE, Int.reduceAdd, Int.reduceSub, Int.reduceMul, Int.reduceNeg, Int.reduceNe, Int.reduceBEq, Int.reduceBNe, Int.reduceToNat, p_instr_Write_11110101111111111111_eq, hm, cells_Z, isCell_Z, low_Z, stripC_Z, isTup_Z, strip_Z, List.append_assoc, List.append_nil, Bool.or_assoc, Bool.not_true, Bool.not_false, Bool.or_false, Bool.false_or, Bool.true_or, Bool.or_true]
theorem iw_2 {v : IG} {nm : ByteArray} {o : Int} (hv : v.w) (hs : b.length + (iBody 2 v).1.length ≤ 140737488355328) :
    run (p_instr_Write_1111 (.ptr (List.length H) 0) (.slice false true 0 []) (.int .i64 0) (.ptr (List.length H + 1) 0) (.ptr (List.length H + 2) 0)) (hadd H [.cells (cs_IG v), .cells [.int .i64 o, .str nm, .int .i64 2], .cells [accB b, .bool f]]) =
    run (p_instr_Write_11111 (.slice false true 0 []) (.int .i64 0) (.ptr (List.length H + 2) 0)) (hadd H [.cells (cs_IG v), .cells [.int .i64 o, .str nm, .int .i64 2], .cells [accB (b ++ (iBody 2 v).1), .bool (f || (iBody 2 v).2)]]) := by
  obtain ⟨⟨x0, x1⟩, ⟨y0, y1⟩, ⟨n0, n1⟩⟩ := And.intro hv.x (And.intro hv.y hv.n)
  simp only [iBody, iEnt] at hs ⊢
  have he := fun K => eB_is (K := K) hv.bh
  have hp := iw_use3 (iputI (c := List.length H + 2) (r := eB v.block)) (H := H) (x := .cells (cs_IG v)) (y := .cells [.int .i64 o, .str nm, .int .i64 2]) (b := b) (f := f) hs
  simp only [iEnt] at hp
  unfold cs_IG at hp ⊢
  rw [p_instr_Write_1111_eq]
  simp (contextual := true) (dsimp := false) (disch := first | omega | (simp only [List.length_append, List.length_cons, List.length_nil, Int.toNat_natCast]; omega)) only [↓goDown, goUp, List.length_cons, List.length_nil, List.map_cons, List.map_nil, List.take_succ_cons, List.take_zero, List.drop_succ_cons, List.drop_zero, List.drop_nil, List.take_nil, List.cons_append, List.nil_append, List.append_nil, List.set_cons_zero, List.set_cons_succ, List.all_cons, List.all_nil, ↓reduceIte, reduceCtorEq, ge_iff_le, gt_iff_lt, eq_self_iff_true, beq_self_eq_true, beq_iff_eq, bne_iff_ne, ne_eq, ite_not, Int.reduceEq, Option.getD_some, Option.getD_none, ite_self, Nat.reduceAdd, Nat.reduceSub, Nat.reduceMul, Nat.reduceLeDiff, Nat.reduceEqDiff, Nat.reduceBEq, Nat.reduceBNe, Int.reduceLT, Int.reduceLE, Int.reduceAdd, Int.reduceSub, Int.reduceMul, Int.reduceNeg, Int.reduceNe, Int.reduceBEq, Int.reduceBNe, Int.reduceToNat, p_instr_Write_11110101111111111111_eq, he, hp, cells_Z, isCell_Z, low_Z, stripC_Z, isTup_Z, strip_Z, List.append_assoc, List.append_nil, Bool.or_assoc, Bool.not_true, Bool.not_false, Bool.or_false, Bool.false_or, Bool.true_or, Bool.or_true]
theorem iw_3 {v : IG} {nm : ByteArray} {o : Int} (hv : v.w) (hs : b.length + (iBody 3 v).1.length ≤ 140737488355328) :
    run (p_instr_Write_1111 (.ptr (List.length H) 0) (.slice false true 0 []) (.int .i64 0) (.ptr (List.length H + 1) 0) (.ptr (List.length H + 2) 0)) (hadd H [.cells (cs_IG v), .cells [.int .i64 o, .str nm, .int .i64 3], .cells [accB b, .bool f]]) =
    run (p_instr_Write_11111 (.slice false true 0 []) (.int .i64 0) (.ptr (List.length H + 2) 0)) (hadd H [.cells (cs_IG v), .cells [.int .i64 o, .str nm, .int .i64 3], .cells [accB (b ++ (iBody 3 v).1), .bool (f || (iBody 3 v).2)]]) := by
  obtain ⟨⟨x0, x1⟩, ⟨y0, y1⟩, ⟨n0, n1⟩⟩ := And.intro hv.x (And.intro hv.y hv.n)
  simp only [iBody] at hs ⊢
  have hp := iw_use3 (itryW (c := List.length H + 2) (v := v) hv.bh (by have := hv.lc; omega) hv.ca) (H := H) (x := .cells (cs_IG v)) (y := .cells [.int .i64 o, .str nm, .int .i64 3]) (b := b) (f := f) hs
  unfold cs_IG at hp ⊢
  rw [p_instr_Write_1111_eq]
  simp (contextual := true) (dsimp := false) (disch := first | omega | (simp only [List.length_append, List.length_cons, List.length_nil, Int.toNat_natCast]; omega)) only [↓goDown, goUp, List.length_cons, List.length_nil, List.map_cons, List.map_nil, List.take_succ_cons, List.take_zero, List.drop_succ_cons, List.drop_zero, List.drop_nil, List.take_nil, List.cons_append, List.nil_append, List.append_nil, List.set_cons_zero, List.set_cons_succ, List.all_cons, List.all_nil, ↓reduceIte, reduceCtorEq, ge_iff_le, gt_iff_lt, eq_self_iff_true, beq_self_eq_true, beq_iff_eq, bne_iff_ne, ne_eq, ite_not, Int.reduceEq, Option.getD_some, Option.getD_none, ite_self, Nat.reduceAdd, Nat.reduceSub, Nat.reduceMul, Nat.reduceLeDiff, Nat.reduceEqDiff, Nat.reduceBEq, Nat.reduceBNe, Int.reduceLT, Int.reduceLE, Int.reduceAdd, Int.reduceSub, Int.reduceMul, Int.reduceNeg, Int.reduceNe, Int.reduceBEq, Int.reduceBNe, Int.reduceToNat, p_instr_Write_11110101111111111111_eq, hp, cells_Z, isCell_Z, low_Z, stripC_Z, isTup_Z, strip_Z, List.append_assoc, List.append_nil, Bool.or_assoc, Bool.not_true, Bool.not_false, Bool.or_false, Bool.false_or, Bool.true_or, Bool.or_true]
theorem iw_4 {v : IG} {nm : ByteArray} {o : Int} (hv : v.w) (hs : b.length + (iBody 4 v).1.length ≤ 140737488355328) :
    run (p_instr_Write_1111 (.ptr (List.length H) 0) (.slice false true 0 []) (.int .i64 0) (.ptr (List.length H + 1) 0) (.ptr (List.length H + 2) 0)) (hadd H [.cells (cs_IG v), .cells [.int .i64 o, .str nm, .int .i64 4], .cells [accB b, .bool f]]) =
    run (p_instr_Write_11111 (.slice false true 0 []) (.int .i64 0) (.ptr (List.length H + 2) 0)) (hadd H [.cells (cs_IG v), .cells [.int .i64 o, .str nm, .int .i64 4], .cells [accB (b ++ (iBody 4 v).1), .bool (f || (iBody 4 v).2)]]) := by
  obtain ⟨⟨x0, x1⟩, ⟨y0, y1⟩, ⟨n0, n1⟩⟩ := And.intro hv.x (And.intro hv.y hv.n)
  simp only [iBody] at hs ⊢
  have hu := fun (n : Int) (h0 : 0 ≤ n) (h1 : n < 18446744073709551616) (b : List UInt8) (f : Bool) (hs : b.length + (putU n.toNat).length ≤ 140737488355328) => iw_use3 (iuI (c := List.length H + 2) h0 h1) (H := H) (x := .cells (cs_IG v)) (y := .cells [.int .i64 o, .str nm, .int .i64 4]) (b := b) (f := f) hs
  unfold cs_IG at hu ⊢
  rw [p_instr_Write_1111_eq]
  simp (contextual := true) (dsimp := false) (disch := first | omega | (simp only [List.length_append, List.length_cons, List.length_nil, Int.toNat_natCast]; omega)) only [↓goDown, goUp, List.length_cons, List.length_nil, List.map_cons, List.map_nil, List.take_succ_cons, List.take_zero, List.drop_succ_cons, List.drop_zero, List.drop_nil, List.take_nil, List.cons_append, List.nil_append, List.append_nil, List.set_cons_zero, List.set_cons_succ, List.all_cons, List.all_nil, ↓reduceIte, reduceCtorEq, ge_iff_le, gt_iff_lt, eq_self_iff_true, beq_self_eq_true, beq_iff_eq, bne_iff_ne, ne_eq, ite_not, Int.reduceEq, Option.getD_some, Option.getD_none, ite_self, Nat.reduceAdd, Nat.reduceSub, Nat.reduceMul, Nat.reduceLeDiff, Nat.reduceEqDiff, Nat.reduceBEq, Nat.reduceBNe, Int.reduceLT, Int.reduceLE, Int.reduceAdd, Int.reduceSub, Int.reduceMul, Int.reduceNeg, Int.reduceNe, Int.reduceBEq, Int.reduceBNe, Int.reduceToNat, p_instr_Write_11110101111111111111_eq, hu, cells_Z, isCell_Z, low_Z, stripC_Z, isTup_Z, strip_Z, List.append_assoc, List.append_nil, Bool.or_assoc, Bool.not_true, Bool.not_false, Bool.or_false, Bool.false_or, Bool.true_or, Bool.or_true]
theorem iw_5 {v : IG} {nm : ByteArray} {o : Int} (hv : v.w) (hs : b.length + (iBody 5 v).1.length ≤ 140737488355328) :
    run (p_instr_Write_1111 (.ptr (List.length H) 0) (.slice false true 0 []) (.int .i64 0) (.ptr (List.length H + 1) 0) (.ptr (List.length H + 2) 0)) (hadd H [.cells (cs_IG v), .cells [.int .i64 o, .str nm, .int .i64 5], .cells [accB b, .bool f]]) =
    run (p_instr_Write_11111 (.slice false true 0 []) (.int .i64 0) (.ptr (List.length H + 2) 0)) (hadd H [.cells (cs_IG v), .cells [.int .i64 o, .str nm, .int .i64 5], .cells [accB (b ++ (iBody 5 v).1), .bool (f || (iBody 5 v).2)]]) := by
  obtain ⟨⟨x0, x1⟩, ⟨y0, y1⟩, ⟨n0, n1⟩⟩ := And.intro hv.x (And.intro hv.y hv.n)
  simp only [iBody] at hs ⊢
  have hu := fun (n : Int) (h0 : 0 ≤ n) (h1 : n < 18446744073709551616) (b : List UInt8) (f : Bool) (hs : b.length + (putU n.toNat).length ≤ 140737488355328) => iw_use3 (iuI (c := List.length H + 2) h0 h1) (H := H) (x := .cells (cs_IG v)) (y := .cells [.int .i64 o, .str nm, .int .i64 5]) (b := b) (f := f) hs
  simp only [List.length_append] at hs
  unfold cs_IG at hu ⊢
  rw [p_instr_Write_1111_eq]
  simp (contextual := true) (dsimp := false) (disch := first | omega | (simp only [List.length_append, List.length_cons, List.length_nil, Int.toNat_natCast]; omega)) only [↓goDown, goUp, List.length_cons, List.length_nil, List.map_cons, List.map_nil, List.take_succ_cons, List.take_zero, List.drop_succ_cons, List.drop_zero, List.drop_nil, List.take_nil, List.cons_append, List.nil_append, List.append_nil, List.set_cons_zero, List.set_cons_succ, List.all_cons, List.all_nil, ↓reduceIte, reduceCtorEq, ge_iff_le, gt_iff_lt, eq_self_iff_true, beq_self_eq_true, beq_iff_eq, bne_iff_ne, ne_eq, ite_not, Int.reduceEq, Option.getD_some, Option.getD_none, ite_self, Nat.reduceAdd, Nat.reduceSub, Nat.reduceMul, Nat.reduceLeDiff, Nat.reduceEqDiff, Nat.reduceBEq, Nat.reduceBNe, Int.reduceLT, Int.reduceLE, Int.reduceAdd, Int.reduceSub, Int.reduceMul, Int.reduceNeg, Int.reduceNe, Int.reduceBEq, Int.reduceBNe, Int.reduceToNat, p_instr_Write_11110101111111111111_eq, hu, cells_Z, isCell_Z, low_Z, stripC_Z, isTup_Z, strip_Z, List.append_assoc, List.append_nil, Bool.or_assoc, Bool.not_true, Bool.not_false, Bool.or_false, Bool.false_or, Bool.true_or, Bool.or_true]
theorem iw_6 {v : IG} {nm : ByteArray} {o : Int} (hv : v.w) (hs : b.length + (iBody 6 v).1.length ≤ 140737488355328) :
    run (p_instr_Write_1111 (.ptr (List.length H) 0) (.slice false true 0 []) (.int .i64 0) (.ptr (List.length H + 1) 0) (.ptr (List.length H + 2) 0)) (hadd H [.cells (cs_IG v), .cells [.int .i64 o, .str nm, .int .i64 6], .cells [accB b, .bool f]]) =
    run (p_instr_Write_11111 (.slice false true 0 []) (.int .i64 0) (.ptr (List.length H + 2) 0)) (hadd H [.cells (cs_IG v), .cells [.int .i64 o, .str nm, .int .i64 6], .cells [accB (b ++ (iBody 6 v).1), .bool (f || (iBody 6 v).2)]]) := by
  obtain ⟨⟨x0, x1⟩, ⟨y0, y1⟩, ⟨n0, n1⟩⟩ := And.intro hv.x (And.intro hv.y hv.n)
  simp only [iBody] at hs ⊢
  have hp := iw_use3 (ilabelsW (c := List.length H + 2) (v := v) hv.ll hv.lab hv.x) (H := H) (x := .cells (cs_IG v)) (y := .cells [.int .i64 o, .str nm, .int .i64 6]) (b := b) (f := f) hs
  unfold cs_IG at hp ⊢
  rw [p_instr_Write_1111_eq]
  simp (contextual := true) (dsimp := false) (disch := first | omega | (simp only [List.length_append, List.length_cons, List.length_nil, Int.toNat_natCast]; omega)) only [↓goDown, goUp, List.length_cons, List.length_nil, List.map_cons, List.map_nil, List.take_succ_cons, List.take_zero, List.drop_succ_cons, List.drop_zero, List.drop_nil, List.take_nil, List.cons_append, List.nil_append, List.append_nil, List.set_cons_zero, List.set_cons_succ, List.all_cons, List.all_nil, ↓reduceIte, reduceCtorEq, ge_iff_le, gt_iff_lt, eq_self_iff_true, beq_self_eq_true, beq_iff_eq, bne_iff_ne, ne_eq, ite_not, Int.reduceEq, Option.getD_some, Option.getD_none, ite_self, Nat.reduceAdd, Nat.reduceSub, Nat.reduceMul, Nat.reduceLeDiff, Nat.reduceEqDiff, Nat.reduceBEq, Nat.reduceBNe, Int.reduceLT, Int.reduceLE, Int.reduceAdd, Int.reduceSub, Int.reduceMul, Int.reduceNeg, Int.reduceNe, Int.reduceBEq, Int.reduceBNe, Int.reduceToNat, p_instr_Write_11110101111111111111_eq, hp, cells_Z, isCell_Z, low_Z, stripC_Z, isTup_Z, strip_Z, List.append_assoc, List.append_nil, Bool.or_assoc, Bool.not_true, Bool.not_false, Bool.or_false, Bool.false_or, Bool.true_or, Bool.or_true]
theorem iw_7 {v : IG} {nm : ByteArray} {o : Int} (hv : v.w) (hs : b.length + (iBody 7 v).1.length ≤ 140737488355328) :
    run (p_instr_Write_1111 (.ptr (List.length H) 0) (.slice false true 0 []) (.int .i64 0) (.ptr (List.length H + 1) 0) (.ptr (List.length H + 2) 0)) (hadd H [.cells (cs_IG v), .cells [.int .i64 o, .str nm, .int .i64 7], .cells [accB b, .bool f]]) =
    run (p_instr_Write_11111 (.slice false true 0 []) (.int .i64 0) (.ptr (List.length H + 2) 0)) (hadd H [.cells (cs_IG v), .cells [.int .i64 o, .str nm, .int .i64 7], .cells [accB (b ++ (iBody 7 v).1), .bool (f || (iBody 7 v).2)]]) := by
  obtain ⟨⟨x0, x1⟩, ⟨y0, y1⟩, ⟨n0, n1⟩⟩ := And.intro hv.x (And.intro hv.y hv.n)
  simp only [iBody] at hs ⊢
  have hp := iw_use3 (itypesW (c := List.length H + 2) (v := v) (by have := hv.lt; omega) hv.ty) (H := H) (x := .cells (cs_IG v)) (y := .cells [.int .i64 o, .str nm, .int .i64 7]) (b := b) (f := f) hs
  unfold cs_IG at hp ⊢
  rw [p_instr_Write_1111_eq]
  simp (contextual := true) (dsimp := false) (disch := first | omega | (simp only [List.length_append, List.length_cons, List.length_nil, Int.toNat_natCast]; omega)) only [↓goDown, goUp, List.length_cons, List.length_nil, List.map_cons, List.map_nil, List.take_succ_cons, List.take_zero, List.drop_succ_cons, List.drop_zero, List.drop_nil, List.take_nil, List.cons_append, List.nil_append, List.append_nil, List.set_cons_zero, List.set_cons_succ, List.all_cons, List.all_nil, ↓reduceIte, reduceCtorEq, ge_iff_le, gt_iff_lt, eq_self_iff_true, beq_self_eq_true, beq_iff_eq, bne_iff_ne, ne_eq, ite_not, Int.reduceEq, Option.getD_some, Option.getD_none, ite_self, Nat.reduceAdd, Nat.reduceSub, Nat.reduceMul, Nat.reduceLeDiff, Nat.reduceEqDiff, Nat.reduceBEq, Nat.reduceBNe, Int.reduceLT, Int.reduceLE, Int.reduceAdd, Int.reduceSub, Int.reduceMul, Int.reduceNeg, Int.reduceNe, Int.reduceBEq, Int.reduceBNe, Int.reduceToNat, p_instr_Write_11110101111111111111_eq, hp, cells_Z, isCell_Z, low_Z, stripC_Z, isTup_Z, strip_Z, List.append_assoc, List.append_nil, Bool.or_assoc, Bool.not_true, Bool.not_false, Bool.or_false, Bool.false_or, Bool.true_or, Bool.or_true]
theorem iw_8 {v : IG} {nm : ByteArray} {o : Int} (hv : v.w) (hs : b.length + (iBody 8 v).1.length ≤ 140737488355328) :
    run (p_instr_Write_1111 (.ptr (List.length H) 0) (.slice false true 0 []) (.int .i64 0) (.ptr (List.length H + 1) 0) (.ptr (List.length H + 2) 0)) (hadd H [.cells (cs_IG v), .cells [.int .i64 o, .str nm, .int .i64 8], .cells [accB b, .bool f]]) =
    run (p_instr_Write_11111 (.slice false true 0 []) (.int .i64 0) (.ptr (List.length H + 2) 0)) (hadd H [.cells (cs_IG v), .cells [.int .i64 o, .str nm, .int .i64 8], .cells [accB (b ++ (iBody 8 v).1), .bool (f || (iBody 8 v).2)]]) := by
  obtain ⟨⟨x0, x1⟩, ⟨y0, y1⟩, ⟨n0, n1⟩⟩ := And.intro hv.x (And.intro hv.y hv.n)
  simp only [iBody] at hs ⊢
  have hp := iw_use3 (imemW (c := List.length H + 2) (m := v.mem) hv.al hv.me hv.off) (H := H) (x := .cells (cs_IG v)) (y := .cells [.int .i64 o, .str nm, .int .i64 8]) (b := b) (f := f) hs
  unfold cs_IG at hp ⊢
  rw [p_instr_Write_1111_eq]
  simp (contextual := true) (dsimp := false) (disch := first | omega | (simp only [List.length_append, List.length_cons, List.length_nil, Int.toNat_natCast]; omega)) only [↓goDown, goUp, List.length_cons, List.length_nil, List.map_cons, List.map_nil, List.take_succ_cons, List.take_zero, List.drop_succ_cons, List.drop_zero, List.drop_nil, List.take_nil, List.cons_append, List.nil_append, List.append_nil, List.set_cons_zero, List.set_cons_succ, List.all_cons, List.all_nil, ↓reduceIte, reduceCtorEq, ge_iff_le, gt_iff_lt, eq_self_iff_true, beq_self_eq_true, beq_iff_eq, bne_iff_ne, ne_eq, ite_not, Int.reduceEq, Option.getD_some, Option.getD_none, ite_self, Nat.reduceAdd, Nat.reduceSub, Nat.reduceMul, Nat.reduceLeDiff, Nat.reduceEqDiff, Nat.reduceBEq, Nat.reduceBNe, Int.reduceLT, Int.reduceLE, Int.reduceAdd, Int.reduceSub, Int.reduceMul, Int.reduceNeg, Int.reduceNe, Int.reduceBEq, Int.reduceBNe, Int.reduceToNat, p_instr_Write_11110101111111111111_eq, hp, cells_Z, isCell_Z, low_Z, stripC_Z, isTup_Z, strip_Z, List.append_assoc, List.append_nil, Bool.or_assoc, Bool.not_true, Bool.not_false, Bool.or_false, Bool.false_or, Bool.true_or, Bool.or_true]
theorem iw_1 {v : IG} {nm : ByteArray} {o : Int} (hv : v.w) (hs : b.length + (iBody 1 v).1.length ≤ 140737488355328) :
    run (p_instr_Write_1111 (.ptr (List.length H) 0) (.slice false true 0 []) (.int .i64 0) (.ptr (List.length H + 1) 0) (.ptr (List.length H + 2) 0)) (hadd H [.cells (cs_IG v), .cells [.int .i64 o, .str nm, .int .i64 1], .cells [accB b, .bool f]]) =
    run (p_instr_Write_11111 (.slice false true 0 []) (.int .i64 0) (.ptr (List.length H + 2) 0)) (hadd H [.cells (cs_IG v), .cells [.int .i64 o, .str nm, .int .i64 1], .cells [accB (b ++ (iBody 1 v).1), .bool (f || (iBody 1 v).2)]]) := by
  obtain ⟨⟨x0, x1⟩, ⟨y0, y1⟩, ⟨n0, n1⟩⟩ := And.intro hv.x (And.intro hv.y hv.n)
  simp only [iBody] at hs ⊢
  have hp := iw_use3 (iconstW (c := List.length H + 2) (fm := 1) (n := v.n) (by decide) n0 n1) (H := H) (x := .cells (cs_IG v)) (y := .cells [.int .i64 o, .str nm, .int .i64 1]) (b := b) (f := f) hs
  rw [show ((1 : Nat) : Int) = 1 from rfl] at hp
  unfold cs_IG at hp ⊢
  rw [p_instr_Write_1111_eq]
  simp (contextual := true) (dsimp := false) (disch := first | omega | (simp only [List.length_append, List.length_cons, List.length_nil, Int.toNat_natCast]; omega)) only [↓goDown, goUp, List.length_cons, List.length_nil, List.map_cons, List.map_nil, List.take_succ_cons, List.take_zero, List.drop_succ_cons, List.drop_zero, List.drop_nil, List.take_nil, List.cons_append, List.nil_append, List.append_nil, List.set_cons_zero, List.set_cons_succ, List.all_cons, List.all_nil, ↓reduceIte, reduceCtorEq, ge_iff_le, gt_iff_lt, eq_self_iff_true, beq_self_eq_true, beq_iff_eq, bne_iff_ne, ne_eq, ite_not, Int.reduceEq, Option.getD_some, Option.getD_none, ite_self, Nat.reduceAdd, Nat.reduceSub, Nat.reduceMul, Nat.reduceLeDiff, Nat.reduceEqDiff, Nat.reduceBEq, Nat.reduceBNe, Int.reduceLT, Int.reduceLE, Int.reduceAdd, Int.reduceSub, Int.reduceMul, Int.reduceNeg, Int.reduceNe, Int.reduceBEq, Int.reduceBNe, Int.reduceToNat, p_instr_Write_11110101111111111111_eq, hp, cells_Z, isCell_Z, low_Z, stripC_Z, isTup_Z, strip_Z, List.append_assoc, List.append_nil, Bool.or_assoc, Bool.not_true, Bool.not_false, Bool.or_false, Bool.false_or, Bool.true_or, Bool.or_true]
theorem iw_9 {v : IG} {nm : ByteArray} {o : Int} (hv : v.w) (hs : b.length + (iBody 9 v).1.length ≤ 140737488355328) :
    run (p_instr_Write_1111 (.ptr (List.length H) 0) (.slice false true 0 []) (.int .i64 0) (.ptr (List.length H + 1) 0) (.ptr (List.length H + 2) 0)) (hadd H [.cells (cs_IG v), .cells [.int .i64 o, .str nm, .int .i64 9], .cells [accB b, .bool f]]) =
    run (p_instr_Write_11111 (.slice false true 0 []) (.int .i64 0) (.ptr (List.length H + 2) 0)) (hadd H [.cells (cs_IG v), .cells [.int .i64 o, .str nm, .int .i64 9], .cells [accB (b ++ (iBody 9 v).1), .bool (f || (iBody 9 v).2)]]) := by
  obtain ⟨⟨x0, x1⟩, ⟨y0, y1⟩, ⟨n0, n1⟩⟩ := And.intro hv.x (And.intro hv.y hv.n)
  simp only [iBody] at hs ⊢
  have hp := iw_use3 (iconstW (c := List.length H + 2) (fm := 9) (n := v.n) (by decide) n0 n1) (H := H) (x := .cells (cs_IG v)) (y := .cells [.int .i64 o, .str nm, .int .i64 9]) (b := b) (f := f) hs
  rw [show ((9 : Nat) : Int) = 9 from rfl] at hp
  unfold cs_IG at hp ⊢
  rw [p_instr_Write_1111_eq]
  simp (contextual := true) (dsimp := false) (disch := first | omega | (simp only [List.length_append, List.length_cons, List.length_nil, Int.toNat_natCast]; omega)) only [↓goDown, goUp, List.length_cons, List.length_nil, List.map_cons, List.map_nil, List.take_succ_cons, List.take_zero, List.drop_succ_cons, List.drop_zero, List.drop_nil, List.take_nil, List.cons_append, List.nil_append, List.append_nil, List.set_cons_zero, List.set_cons_succ, List.all_cons, List.all_nil, ↓reduceIte, reduceCtorEq, ge_iff_le, gt_iff_lt, eq_self_iff_true, beq_self_eq_true, beq_iff_eq, bne_iff_ne, ne_eq, ite_not, Int.reduceEq, Option.getD_some, Option.getD_none, ite_self, Nat.reduceAdd, Nat.reduceSub, Nat.reduceMul, Nat.reduceLeDiff, Nat.reduceEqDiff, Nat.reduceBEq, Nat.reduceBNe, Int.reduceLT, Int.reduceLE, Int.reduceAdd, Int.reduceSub, Int.reduceMul, Int.reduceNeg, Int.reduceNe, Int.reduceBEq, Int.reduceBNe, Int.reduceToNat, p_instr_Write_11110101111111111111_eq, hp, cells_Z, isCell_Z, low_Z, stripC_Z, isTup_Z, strip_Z, List.append_assoc, List.append_nil, Bool.or_assoc, Bool.not_true, Bool.not_false, Bool.or_false, Bool.false_or, Bool.true_or, Bool.or_true]
theorem iw_10 {v : IG} {nm : ByteArray} {o : Int} (hv : v.w) (hs : b.length + (iBody 10 v).1.length ≤ 140737488355328) :
    run (p_instr_Write_1111 (.ptr (List.length H) 0) (.slice false true 0 []) (.int .i64 0) (.ptr (List.length H + 1) 0) (.ptr (List.length H + 2) 0)) (hadd H [.cells (cs_IG v), .cells [.int .i64 o, .str nm, .int .i64 10], .cells [accB b, .bool f]]) =
    run (p_instr_Write_11111 (.slice false true 0 []) (.int .i64 0) (.ptr (List.length H + 2) 0)) (hadd H [.cells (cs_IG v), .cells [.int .i64 o, .str nm, .int .i64 10], .cells [accB (b ++ (iBody 10 v).1), .bool (f || (iBody 10 v).2)]]) := by
  obtain ⟨⟨x0, x1⟩, ⟨y0, y1⟩, ⟨n0, n1⟩⟩ := And.intro hv.x (And.intro hv.y hv.n)
  simp only [iBody] at hs ⊢
  have hp := iw_use3 (iconstW (c := List.length H + 2) (fm := 10) (n := v.n) (by decide) n0 n1) (H := H) (x := .cells (cs_IG v)) (y := .cells [.int .i64 o, .str nm, .int .i64 10]) (b := b) (f := f) hs
  rw [show ((10 : Nat) : Int) = 10 from rfl] at hp
  unfold cs_IG at hp ⊢
  rw [p_instr_Write_1111_eq]
  simp (contextual := true) (dsimp := false) (disch := first | omega | (simp only [List.length_append, List.length_cons, List.length_nil, Int.toNat_natCast]; omega)) only [↓goDown, goUp, List.length_cons, List.length_nil, List.map_cons, List.map_nil, List.take_succ_cons, List.take_zero, List.drop_succ_cons, List.drop_zero, List.drop_nil, List.take_nil, List.cons_append, List.nil_append, List.append_nil, List.set_cons_zero, List.set_cons_succ, List.all_cons, List.all_nil, ↓reduceIte, reduceCtorEq, ge_iff_le, gt_iff_lt, eq_self_iff_true, beq_self_eq_true, beq_iff_eq, bne_iff_ne, ne_eq, ite_not, Int.reduceEq, Option.getD_some, Option.getD_none, ite_self, Nat.reduceAdd, Nat.reduceSub, Nat.reduceMul, Nat.reduceLeDiff, Nat.reduceEqDiff, Nat.reduceBEq, Nat.reduceBNe, Int.reduceLT, Int.reduceLE, Int.reduceAdd, Int.reduceSub, Int.reduceMul, Int.reduceNeg, Int.reduceNe, Int.reduceBEq, Int.reduceBNe, Int.reduceToNat, p_instr_Write_11110101111111111111_eq, hp, cells_Z, isCell_Z, low_Z, stripC_Z, isTup_Z, strip_Z, List.append_assoc, List.append_nil, Bool.or_assoc, Bool.not_true, Bool.not_false, Bool.or_false, Bool.false_or, Bool.true_or, Bool.or_true]
theorem iw_11 {v : IG} {nm : ByteArray} {o : Int} (hv : v.w) (hs : b.length + (iBody 11 v).1.length ≤ 140737488355328) :
    run (p_instr_Write_1111 (.ptr (List.length H) 0) (.slice false true 0 []) (.int .i64 0) (.ptr (List.length H + 1) 0) (.ptr (List.length H + 2) 0)) (hadd H [.cells (cs_IG v), .cells [.int .i64 o, .str nm, .int .i64 11], .cells [accB b, .bool f]]) =
    run (p_instr_Write_11111 (.slice false true 0 []) (.int .i64 0) (.ptr (List.length H + 2) 0)) (hadd H [.cells (cs_IG v), .cells [.int .i64 o, .str nm, .int .i64 11], .cells [accB (b ++ (iBody 11 v).1), .bool (f || (iBody 11 v).2)]]) := by
  obtain ⟨⟨x0, x1⟩, ⟨y0, y1⟩, ⟨n0, n1⟩⟩ := And.intro hv.x (And.intro hv.y hv.n)
  simp only [iBody] at hs ⊢
  have hp := iw_use3 (iconstW (c := List.length H + 2) (fm := 11) (n := v.n) (by decide) n0 n1) (H := H) (x := .cells (cs_IG v)) (y := .cells [.int .i64 o, .str nm, .int .i64 11]) (b := b) (f := f) hs
  rw [show ((11 : Nat) : Int) = 11 from rfl] at hp
  unfold cs_IG at hp ⊢
  rw [p_instr_Write_1111_eq]
  simp (contextual := true) (dsimp := false) (disch := first | omega | (simp only [List.length_append, List.length_cons, List.length_nil, Int.toNat_natCast]; omega)) only [↓goDown, goUp, List.length_cons, List.length_nil, List.map_cons, List.map_nil, List.take_succ_cons, List.take_zero, List.drop_succ_cons, List.drop_zero, List.drop_nil, List.take_nil, List.cons_append, List.nil_append, List.append_nil, List.set_cons_zero, List.set_cons_succ, List.all_cons, List.all_nil, ↓reduceIte, reduceCtorEq, ge_iff_le, gt_iff_lt, eq_self_iff_true, beq_self_eq_true, beq_iff_eq, bne_iff_ne, ne_eq, ite_not, Int.reduceEq, Option.getD_some, Option.getD_none, ite_self, Nat.reduceAdd, Nat.reduceSub, Nat.reduceMul, Nat.reduceLeDiff, Nat.reduceEqDiff, Nat.reduceBEq, Nat.reduceBNe, Int.reduceLT, Int.reduceLE, Int.reduceAdd, Int.reduceSub, Int.reduceMul, Int.reduceNeg, Int.reduceNe, Int.reduceBEq, Int.reduceBNe, Int.reduceToNat, p_instr_Write_11110101111111111111_eq, hp, cells_Z, isCell_Z, low_Z, stripC_Z, isTup_Z, strip_Z, List.append_assoc, List.append_nil, Bool.or_assoc, Bool.not_true, Bool.not_false, Bool.or_false, Bool.false_or, Bool.true_or, Bool.or_true]
theorem iw_12 {v : IG} {nm : ByteArray} {o : Int} (hv : v.w) (hs : b.length + (iBody 12 v).1.length ≤ 140737488355328) :
    run (p_instr_Write_1111 (.ptr (List.length H) 0) (.slice false true 0 []) (.int .i64 0) (.ptr (List.length H + 1) 0) (.ptr (List.length H + 2) 0)) (hadd H [.cells (cs_IG v), .cells [.int .i64 o, .str nm, .int .i64 12], .cells [accB b, .bool f]]) =
    run (p_instr_Write_11111 (.slice false true 0 []) (.int .i64 0) (.ptr (List.length H + 2) 0)) (hadd H [.cells (cs_IG v), .cells [.int .i64 o, .str nm, .int .i64 12], .cells [accB (b ++ (iBody 12 v).1), .bool (f || (iBody 12 v).2)]]) := by
  obtain ⟨⟨x0, x1⟩, ⟨y0, y1⟩, ⟨n0, n1⟩⟩ := And.intro hv.x (And.intro hv.y hv.n)
  simp only [iBody] at hs ⊢
  have hp := iw_use3 (iconstW (c := List.length H + 2) (fm := 12) (n := v.n) (by decide) n0 n1) (H := H) (x := .cells (cs_IG v)) (y := .cells [.int .i64 o, .str nm, .int .i64 12]) (b := b) (f := f) hs
  rw [show ((12 : Nat) : Int) = 12 from rfl] at hp
  unfold cs_IG at hp ⊢
  rw [p_instr_Write_1111_eq]
  simp (contextual := true) (dsimp := false) (disch := first | omega | (simp only [List.length_append, List.length_cons, List.length_nil, Int.toNat_natCast]; omega)) only [↓goDown, goUp, List.length_cons, List.length_nil, List.map_cons, List.map_nil, List.take_succ_cons, List.take_zero, List.drop_succ_cons, List.drop_zero, List.drop_nil, List.take_nil, List.cons_append, List.nil_append, List.append_nil, List.set_cons_zero, List.set_cons_succ, List.all_cons, List.all_nil, ↓reduceIte, reduceCtorEq, ge_iff_le, gt_iff_lt, eq_self_iff_true, beq_self_eq_true, beq_iff_eq, bne_iff_ne, ne_eq, ite_not, Int.reduceEq, Option.getD_some, Option.getD_none, ite_self, Nat.reduceAdd, Nat.reduceSub, Nat.reduceMul, Nat.reduceLeDiff, Nat.reduceEqDiff, Nat.reduceBEq, Nat.reduceBNe, Int.reduceLT, Int.reduceLE, Int.reduceAdd, Int.reduceSub, Int.reduceMul, Int.reduceNeg, Int.reduceNe, Int.reduceBEq, Int.reduceBNe, Int.reduceToNat, p_instr_Write_11110101111111111111_eq, hp, cells_Z, isCell_Z, low_Z, stripC_Z, isTup_Z, strip_Z, List.append_assoc, List.append_nil, Bool.or_assoc, Bool.not_true, Bool.not_false, Bool.or_false, Bool.false_or, Bool.true_or, Bool.or_true]
theorem iw_13 {v : IG} {nm : ByteArray} {o : Int} (hv : v.w) (hs : b.length + (iBody 13 v).1.length ≤ 140737488355328) :
    run (p_instr_Write_1111 (.ptr (List.length H) 0) (.slice false true 0 []) (.int .i64 0) (.ptr (List.length H + 1) 0) (.ptr (List.length H + 2) 0)) (hadd H [.cells (cs_IG v), .cells [.int .i64 o, .str nm, .int .i64 13], .cells [accB b, .bool f]]) =
    run (p_instr_Write_11111 (.slice false true 0 []) (.int .i64 0) (.ptr (List.length H + 2) 0)) (hadd H [.cells (cs_IG v), .cells [.int .i64 o, .str nm, .int .i64 13], .cells [accB (b ++ (iBody 13 v).1), .bool (f || (iBody 13 v).2)]]) := by
  obtain ⟨⟨x0, x1⟩, ⟨y0, y1⟩, ⟨n0, n1⟩⟩ := And.intro hv.x (And.intro hv.y hv.n)
  simp only [iBody, iCat] at hs ⊢
  simp only [List.append_nil] at hs
  have hm := fun (ok : Bool) (b : List UInt8) (f : Bool) (hs : b.length ≤ 140737488355328) => iw_use3 (imustI (c := List.length H + 2) (ok := ok)) (H := H) (x := .cells (cs_IG v)) (y := .cells [.int .i64 o, .str nm, .int .i64 13]) (b := b) (f := f) hs
  have hr := iw_use3 (irefsW (c := List.length H + 2) (z := v.types.z) (l := v.types.l) (n := 1) (by have := hv.lt; omega) hv.ty) (H := H) (x := .cells (cs_IG v)) (y := .cells [.int .i64 o, .str nm, .int .i64 13]) (b := b) (f := f) hs
  have hm := hm (oneNull v.types.l) (b ++ (iRefs v.types.l 1).1) (f || (iRefs v.types.l 1).2) (by rw [List.length_append]; exact hs)
  simp only [List.append_nil] at hm
  have ha := and1 v.op
  unfold cs_IG at hm hr ⊢
  have hln : ∀ K, run (lnL (LZ v.types.z 3 (v.types.l.map encV))) K = some (.ok (.int .i64 v.types.l.length) K) := fun K => by rw [ln_Z, List.length_map]
  rw [p_instr_Write_1111_eq]
  by_cases h1 : (v.types.l.length : Int) = 1
  · obtain ⟨a, ha1⟩ : ∃ a, v.types.l = [a] := List.length_eq_one_iff.mp (by omega)
    have hia : ∀ K, run (iaS 3 (LZ v.types.z 3 (v.types.l.map encV)) (.int .i64 0)) K = some (.ok (.elem [.int .i64 a.num, .bool a.nul, .int .i64 a.heap]) K) := fun K => by rw [ha1]; rfl
    have ho : oneNull v.types.l = a.nul := by rw [ha1]; rfl
    rw [ho] at hm ⊢
    simp (contextual := true) (dsimp := false) (disch := omega) only [↓goDown, goUp, List.length_cons, List.length_nil, List.map_cons, List.map_nil, List.take_succ_cons, List.take_zero, List.drop_succ_cons, List.drop_zero, List.drop_nil, List.take_nil, List.cons_append, List.nil_append, List.append_nil, List.set_cons_zero, List.set_cons_succ, List.all_cons, List.all_nil, ↓reduceIte, reduceCtorEq, ge_iff_le, gt_iff_lt, eq_self_iff_true, beq_self_eq_true, beq_iff_eq, bne_iff_ne, ne_eq, ite_not, Int.reduceEq, Option.getD_some, Option.getD_none, ite_self, Nat.reduceAdd, Nat.reduceSub, Nat.reduceMul, Nat.reduceLeDiff, Nat.reduceEqDiff, Nat.reduceBEq, Nat.reduceBNe, Int.reduceLT, Int.reduceLE, Int.reduceAdd, Int.reduceSub, Int.reduceMul, Int.reduceNeg, Int.reduceNe, Int.reduceBEq, Int.reduceBNe, Int.reduceToNat, p_instr_Write_11110101111111111111_eq, hln, eq_true h1, hia, ha, run_and, bi_beql, hr, hm, cells_Z, isCell_Z, low_Z, stripC_Z, isTup_Z, strip_Z, List.append_assoc, List.append_nil, Bool.or_assoc, Bool.not_true, Bool.not_false, Bool.or_false, Bool.false_or, Bool.true_or, Bool.or_true]
  have ho : oneNull v.types.l = false := by
    unfold oneNull
    split
    · rename_i hq; rw [hq] at h1; simp at h1
    · rfl
  rw [ho] at hm ⊢
  simp (contextual := true) (dsimp := false) (disch := first | omega | (simp only [List.length_append, List.length_cons, List.length_nil, Int.toNat_natCast]; omega)) only [↓goDown, goUp, List.length_cons, List.length_nil, List.map_cons, List.map_nil, List.take_succ_cons, List.take_zero, List.drop_succ_cons, List.drop_zero, List.drop_nil, List.take_nil, List.cons_append, List.nil_append, List.append_nil, List.set_cons_zero, List.set_cons_succ, List.all_cons, List.all_nil, ↓reduceIte, reduceCtorEq, ge_iff_le, gt_iff_lt, eq_self_iff_true, beq_self_eq_true, beq_iff_eq, bne_iff_ne, ne_eq, ite_not, Int.reduceEq, Option.getD_some, Option.getD_none, ite_self, Nat.reduceAdd, Nat.reduceSub, Nat.reduceMul, Nat.reduceLeDiff, Nat.reduceEqDiff, Nat.reduceBEq, Nat.reduceBNe, Int.reduceLT, Int.reduceLE, Int.reduceAdd, Int.reduceSub, Int.reduceMul, Int.reduceNeg, Int.reduceNe, Int.reduceBEq, Int.reduceBNe, Int.reduceToNat, p_instr_Write_11110101111111111111_eq, hln, h1, hr, hm, cells_Z, isCell_Z, low_Z, stripC_Z, isTup_Z, strip_Z, List.append_assoc, List.append_nil, Bool.or_assoc, Bool.not_true, Bool.not_false, Bool.or_false, Bool.false_or, Bool.true_or, Bool.or_true]
theorem iw_14 {v : IG} {nm : ByteArray} {o : Int} (hv : v.w) (hs : b.length + (iBody 14 v).1.length ≤ 140737488355328) :
    run (p_instr_Write_1111 (.ptr (List.length H) 0) (.slice false true 0 []) (.int .i64 0) (.ptr (List.length H + 1) 0) (.ptr (List.length H + 2) 0)) (hadd H [.cells (cs_IG v), .cells [.int .i64 o, .str nm, .int .i64 14], .cells [accB b, .bool f]]) =
    run (p_instr_Write_11111 (.slice false true 0 []) (.int .i64 0) (.ptr (List.length H + 2) 0)) (hadd H [.cells (cs_IG v), .cells [.int .i64 o, .str nm, .int .i64 14], .cells [accB (b ++ (iBody 14 v).1), .bool (f || (iBody 14 v).2)]]) := by
  obtain ⟨⟨x0, x1⟩, ⟨y0, y1⟩, ⟨n0, n1⟩⟩ := And.intro hv.x (And.intro hv.y hv.n)
  simp only [iBody, iCat] at hs ⊢
  simp only [List.append_nil] at hs
  have hm := fun (ok : Bool) (b : List UInt8) (f : Bool) (hs : b.length ≤ 140737488355328) => iw_use3 (imustI (c := List.length H + 2) (ok := ok)) (H := H) (x := .cells (cs_IG v)) (y := .cells [.int .i64 o, .str nm, .int .i64 14]) (b := b) (f := f) hs
  have hr := iw_use3 (irefsW (c := List.length H + 2) (z := v.types.z) (l := v.types.l) (n := 1) (by have := hv.lt; omega) hv.ty) (H := H) (x := .cells (cs_IG v)) (y := .cells [.int .i64 o, .str nm, .int .i64 14]) (b := b) (f := f) hs
  have hm := hm (oneCast (v.op % 2 == 1) v.types.l) (b ++ (iRefs v.types.l 1).1) (f || (iRefs v.types.l 1).2) (by rw [List.length_append]; exact hs)
  simp only [List.append_nil] at hm
  have ha := and1 v.op
  unfold cs_IG at hm hr ⊢
  have hln : ∀ K, run (lnL (LZ v.types.z 3 (v.types.l.map encV))) K = some (.ok (.int .i64 v.types.l.length) K) := fun K => by rw [ln_Z, List.length_map]
  rw [p_instr_Write_1111_eq]
  by_cases h1 : (v.types.l.length : Int) = 1
  · obtain ⟨a, ha1⟩ : ∃ a, v.types.l = [a] := List.length_eq_one_iff.mp (by omega)
    have hia : ∀ K, run (iaS 3 (LZ v.types.z 3 (v.types.l.map encV)) (.int .i64 0)) K = some (.ok (.elem [.int .i64 a.num, .bool a.nul, .int .i64 a.heap]) K) := fun K => by rw [ha1]; rfl
    have ho : oneCast (v.op % 2 == 1) v.types.l = (a.nul == (v.op % 2 == 1)) := by rw [ha1]; rfl
    rw [ho] at hm ⊢
    simp (contextual := true) (dsimp := false) (disch := omega) only [↓goDown, goUp, List.length_cons, List.length_nil, List.map_cons, List.map_nil, List.take_succ_cons, List.take_zero, List.drop_succ_cons, List.drop_zero, List.drop_nil, List.take_nil, List.cons_append, List.nil_append, List.append_nil, List.set_cons_zero, List.set_cons_succ, List.all_cons, List.all_nil, ↓reduceIte, reduceCtorEq, ge_iff_le, gt_iff_lt, eq_self_iff_true, beq_self_eq_true, beq_iff_eq, bne_iff_ne, ne_eq, ite_not, Int.reduceEq, Option.getD_some, Option.getD_none, ite_self, Nat.reduceAdd, Nat.reduceSub, Nat.reduceMul, Nat.reduceLeDiff, Nat.reduceEqDiff, Nat.reduceBEq, Nat.reduceBNe, Int.reduceLT, Int.reduceLE, Int.reduceAdd, Int.reduceSub, Int.reduceMul, Int.reduceNeg, Int.reduceNe, Int.reduceBEq, Int.reduceBNe, Int.reduceToNat, p_instr_Write_11110101111111111111_eq, hln, eq_true h1, hia, ha, run_and, bi_beql, hr, hm, cells_Z, isCell_Z, low_Z, stripC_Z, isTup_Z, strip_Z, List.append_assoc, List.append_nil, Bool.or_assoc, Bool.not_true, Bool.not_false, Bool.or_false, Bool.false_or, Bool.true_or, Bool.or_true]
  have ho : oneCast (v.op % 2 == 1) v.types.l = false := by
    unfold oneCast
    split
    · rename_i hq; rw [hq] at h1; simp at h1
    · rfl
  rw [ho] at hm ⊢
  simp (contextual := true) (dsimp := false) (disch := first | omega | (simp only [List.length_append, List.length_cons, List.length_nil, Int.toNat_natCast]; omega)) only [↓goDown, goUp, List.length_cons, List.length_nil, List.map_cons, List.map_nil, List.take_succ_cons, List.take_zero, List.drop_succ_cons, List.drop_zero, List.drop_nil, List.take_nil, List.cons_append, List.nil_append, List.append_nil, List.set_cons_zero, List.set_cons_succ, List.all_cons, List.all_nil, ↓reduceIte, reduceCtorEq, ge_iff_le, gt_iff_lt, eq_self_iff_true, beq_self_eq_true, beq_iff_eq, bne_iff_ne, ne_eq, ite_not, Int.reduceEq, Option.getD_some, Option.getD_none, ite_self, Nat.reduceAdd, Nat.reduceSub, Nat.reduceMul, Nat.reduceLeDiff, Nat.reduceEqDiff, Nat.reduceBEq, Nat.reduceBNe, Int.reduceLT, Int.reduceLE, Int.reduceAdd, Int.reduceSub, Int.reduceMul, Int.reduceNeg, Int.reduceNe, Int.reduceBEq, Int.reduceBNe, Int.reduceToNat, p_instr_Write_11110101111111111111_eq, hln, h1, hr, hm, cells_Z, isCell_Z, low_Z, stripC_Z, isTup_Z, strip_Z, List.append_assoc, List.append_nil, Bool.or_assoc, Bool.not_true, Bool.not_false, Bool.or_false, Bool.false_or, Bool.true_or, Bool.or_true]
theorem iw_15 {v : IG} {nm : ByteArray} {o : Int} (hv : v.w) (hs : b.length + (iBody 15 v).1.length ≤ 140737488355328) :
    run (p_instr_Write_1111 (.ptr (List.length H) 0) (.slice false true 0 []) (.int .i64 0) (.ptr (List.length H + 1) 0) (.ptr (List.length H + 2) 0)) (hadd H [.cells (cs_IG v), .cells [.int .i64 o, .str nm, .int .i64 15], .cells [accB b, .bool f]]) =
    run (p_instr_Write_11111 (.slice false true 0 []) (.int .i64 0) (.ptr (List.length H + 2) 0)) (hadd H [.cells (cs_IG v), .cells [.int .i64 o, .str nm, .int .i64 15], .cells [accB (b ++ (iBody 15 v).1), .bool (f || (iBody 15 v).2)]]) := by
  obtain ⟨⟨x0, x1⟩, ⟨y0, y1⟩, ⟨n0, n1⟩⟩ := And.intro hv.x (And.intro hv.y hv.n)
  simp only [iBody] at hs ⊢
  have hp := iw_use3 (ibrCastW (c := List.length H + 2) (v := v) (by have := hv.lt; omega) hv.ty hv.x) (H := H) (x := .cells (cs_IG v)) (y := .cells [.int .i64 o, .str nm, .int .i64 15]) (b := b) (f := f) hs
  unfold cs_IG at hp ⊢
  rw [p_instr_Write_1111_eq]
  simp (contextual := true) (dsimp := false) (disch := first | omega | (simp only [List.length_append, List.length_cons, List.length_nil, Int.toNat_natCast]; omega)) only [↓goDown, goUp, List.length_cons, List.length_nil, List.map_cons, List.map_nil, List.take_succ_cons, List.take_zero, List.drop_succ_cons, List.drop_zero, List.drop_nil, List.take_nil, List.cons_append, List.nil_append, List.append_nil, List.set_cons_zero, List.set_cons_succ, List.all_cons, List.all_nil, ↓reduceIte, reduceCtorEq, ge_iff_le, gt_iff_lt, eq_self_iff_true, beq_self_eq_true, beq_iff_eq, bne_iff_ne, ne_eq, ite_not, Int.reduceEq, Option.getD_some, Option.getD_none, ite_self, Nat.reduceAdd, Nat.reduceSub, Nat.reduceMul, Nat.reduceLeDiff, Nat.reduceEqDiff, Nat.reduceBEq, Nat.reduceBNe, Int.reduceLT, Int.reduceLE, Int.reduceAdd, Int.reduceSub, Int.reduceMul, Int.reduceNeg, Int.reduceNe, Int.reduceBEq, Int.reduceBNe, Int.reduceToNat, p_instr_Write_11110101111111111111_eq, hp, cells_Z, isCell_Z, low_Z, stripC_Z, isTup_Z, strip_Z, List.append_assoc, List.append_nil, Bool.or_assoc, Bool.not_true, Bool.not_false, Bool.or_false, Bool.false_or, Bool.true_or, Bool.or_true]
theorem iw_16 {v : IG} {nm : ByteArray} {o : Int} (hv : v.w) (hs : b.length + (iBody 16 v).1.length ≤ 140737488355328) :
    run (p_instr_Write_1111 (.ptr (List.length H) 0) (.slice false true 0 []) (.int .i64 0) (.ptr (List.length H + 1) 0) (.ptr (List.length H + 2) 0)) (hadd H [.cells (cs_IG v), .cells [.int .i64 o, .str nm, .int .i64 16], .cells [accB b, .bool f]]) =
    run (p_instr_Write_11111 (.slice false true 0 []) (.int .i64 0) (.ptr (List.length H + 2) 0)) (hadd H [.cells (cs_IG v), .cells [.int .i64 o, .str nm, .int .i64 16], .cells [accB (b ++ (iBody 16 v).1), .bool (f || (iBody 16 v).2)]]) := by
  obtain ⟨⟨x0, x1⟩, ⟨y0, y1⟩, ⟨n0, n1⟩⟩ := And.intro hv.x (And.intro hv.y hv.n)
  simp only [iBody] at hs ⊢
  have hm := fun (ok : Bool) (b : List UInt8) (f : Bool) (hs : b.length ≤ 140737488355328) => iw_use3 (imustI (c := List.length H + 2) (ok := ok)) (H := H) (x := .cells (cs_IG v)) (y := .cells [.int .i64 o, .str nm, .int .i64 16]) (b := b) (f := f) hs
  have hu := fun (n : Int) (h0 : 0 ≤ n) (h1 : n < 18446744073709551616) (b : List UInt8) (f : Bool) (hs : b.length + (putU n.toNat).length ≤ 140737488355328) => iw_use3 (iuI (c := List.length H + 2) h0 h1) (H := H) (x := .cells (cs_IG v)) (y := .cells [.int .i64 o, .str nm, .int .i64 16]) (b := b) (f := f) hs
  simp only [List.length_append] at hs
  simp only [List.append_nil] at hm
  unfold cs_IG at hm hu ⊢
  rw [p_instr_Write_1111_eq]
  simp (contextual := true) (dsimp := false) (disch := first | omega | (simp only [List.length_append, List.length_cons, List.length_nil, Int.toNat_natCast]; omega)) only [↓goDown, goUp, List.length_cons, List.length_nil, List.map_cons, List.map_nil, List.take_succ_cons, List.take_zero, List.drop_succ_cons, List.drop_zero, List.drop_nil, List.take_nil, List.cons_append, List.nil_append, List.append_nil, List.set_cons_zero, List.set_cons_succ, List.all_cons, List.all_nil, ↓reduceIte, reduceCtorEq, ge_iff_le, gt_iff_lt, eq_self_iff_true, beq_self_eq_true, beq_iff_eq, bne_iff_ne, ne_eq, ite_not, Int.reduceEq, Option.getD_some, Option.getD_none, ite_self, Nat.reduceAdd, Nat.reduceSub, Nat.reduceMul, Nat.reduceLeDiff, Nat.reduceEqDiff, Nat.reduceBEq, Nat.reduceBNe, Int.reduceLT, Int.reduceLE, Int.reduceAdd, Int.reduceSub, Int.reduceMul, Int.reduceNeg, Int.reduceNe, Int.reduceBEq, Int.reduceBNe, Int.reduceToNat, p_instr_Write_11110101111111111111_eq, hm, hu, cells_Z, isCell_Z, low_Z, stripC_Z, isTup_Z, strip_Z, List.append_assoc, List.append_nil, Bool.or_assoc, Bool.not_true, Bool.not_false, Bool.or_false, Bool.false_or, Bool.true_or, Bool.or_true]
end Go.Proofs.Ythidcpkcfoldmaa.Pi.Q
namespace Go.Proofs.Ythidcpkcfoldmaa.Pi.Q
open Go Go.Proofs.Ythidcpkcfoldmaa.Pi
set_option linter.unusedVariables false
set_option linter.unusedSimpArgs false
set_option maxRecDepth 100000
attribute [local congr] ite_congr
variable {c : Nat} {H : Heap} {L : List Box} {b : List UInt8} {f : Bool}
theorem iw_all {v : IG} {nm : ByteArray} {o : Int} {fm : Nat} (hfm : fm < 17) (hv : v.w) (hs : b.length + (iBody fm v).1.length ≤ 140737488355328) :
    run (p_instr_Write_1111 (.ptr (List.length H) 0) (.slice false true 0 []) (.int .i64 0) (.ptr (List.length H + 1) 0) (.ptr (List.length H + 2) 0)) (hadd H [.cells (cs_IG v), .cells [.int .i64 o, .str nm, .int .i64 fm], .cells [accB b, .bool f]]) =
    run (p_instr_Write_11111 (.slice false true 0 []) (.int .i64 0) (.ptr (List.length H + 2) 0)) (hadd H [.cells (cs_IG v), .cells [.int .i64 o, .str nm, .int .i64 fm], .cells [accB (b ++ (iBody fm v).1), .bool (f || (iBody fm v).2)]]) := by
  have h : fm = 0 ∨ fm = 1 ∨ fm = 2 ∨ fm = 3 ∨ fm = 4 ∨ fm = 5 ∨ fm = 6 ∨ fm = 7 ∨ fm = 8 ∨ fm = 9 ∨ fm = 10 ∨ fm = 11 ∨ fm = 12 ∨ fm = 13 ∨ fm = 14 ∨ fm = 15 ∨ fm = 16 := by omega
  rcases h with rfl | rfl | rfl | rfl | rfl | rfl | rfl | rfl | rfl | rfl | rfl | rfl | rfl | rfl | rfl | rfl | rfl
  · exact iw_0 hv hs
  · exact iw_1 hv hs
  · exact iw_2 hv hs
  · exact iw_3 hv hs
  · exact iw_4 hv hs
  · exact iw_5 hv hs
  · exact iw_6 hv hs
  · exact iw_7 hv hs
  · exact iw_8 hv hs
  · exact iw_9 hv hs
  · exact iw_10 hv hs
  · exact iw_11 hv hs
  · exact iw_12 hv hs
  · exact iw_13 hv hs
  · exact iw_14 hv hs
  · exact iw_15 hv hs
  · exact iw_16 hv hs
def iOp (op : Int) : IW := (if 255 < op then iByte (op / 256) :: putU (op % 256).toNat else [iByte op], false)
def progW (v : IG) : IW := iCat (iOp v.op) (iBody (formN v.op) v)
def wOut (w : IW) : PV := if w.2 = true then .tup [.slice false true 0 [], .int .i64 1] else .tup [accB w.1, .int .i64 0]
theorem shr8i {n : Int} (h : 0 ≤ n) : n.fdiv (2 ^ shiftN .i64 8) = n / 256 := by
  rw [show shiftN .i64 8 = 8 from rfl, Int.fdiv_eq_ediv_of_nonneg _ (by omega)]
  rfl
theorem ap_first {x : UInt8} {K : Heap} : run (ap true 1 1 (.slice false true 0 []) (.slice true false 1 [byt x])) K = some (.ok (accB [x]) K) := nrfl rfl
theorem iwrite_is {v : IG} (hv : v.w) (hs : (progW v).1.length ≤ 140737488355328) : run (C k_instr_Write [.agg (cs_IG v)]) H = some (.ok (wOut (progW v)) H) := by
  have hf := fun K => find_is (op := v.op) (H := K) hv.op.1 hv.op.2
  unfold encK at hf
  rw [formP_is] at hf
  simp only [progW, iCat, iOp, List.length_append] at hs
  have ha := and255 v.op
  have hr0 : 0 ≤ v.op % 256 ∧ v.op % 256 < 256 := by omega
  have nz : ∀ s, accB (iByte s :: []) = .slice true false 1 [byt (iByte s)] := fun s => rfl
  by_cases h1 : 255 < v.op
  · have hu := fun (b : List UInt8) (f : Bool) (hs : b.length + (putU (v.op % 256).toNat).length ≤ 140737488355328) => iw_use3 (iuI (c := List.length H + 2) (n := v.op % 256) hr0.1 (by omega)) (x := .cells (cs_IG v)) (y := .cells [.int .i64 (opP v.op).1, .str (opP v.op).2.1, .int .i64 (formN v.op)]) (b := b) (f := f) hs
    rw [if_pos h1] at hs
    simp only [List.length_cons] at hs
    have hb := iw_all (H := H) (v := v) (nm := (opP v.op).2.1) (o := (opP v.op).1) (fm := formN v.op) (b := iByte (v.op / 256) :: putU (v.op % 256).toNat) (f := false) (formN_lt _) hv (by simp only [List.length_cons]; omega)
    have hsh := shr8i (n := v.op) (by omega)
    have hg : (v.op > 255) = True := eq_true h1
    unfold progW iOp iCat wOut
    simp only [if_pos h1, Bool.false_or]
    unfold cs_IG at hu hb ⊢
    rw [instr_Write_eq]
    cases hbad : (iBody (formN v.op) v).2 with
    | true =>
      rw [hbad] at hb
      simp (contextual := true) (dsimp := false) (disch := first | omega | (simp only [List.length_append, List.length_cons, List.length_nil, Int.toNat_natCast]; omega)) only [↓goDown, goUp, List.length_cons, List.length_nil, List.map_cons, List.map_nil, List.take_succ_cons, List.take_zero, List.drop_succ_cons, List.drop_zero, List.drop_nil, List.take_nil, List.cons_append, List.nil_append, List.append_nil, List.set_cons_zero, List.set_cons_succ, List.all_cons, List.all_nil, ↓reduceIte, reduceCtorEq, ge_iff_le, gt_iff_lt, eq_self_iff_true, beq_self_eq_true, beq_iff_eq, bne_iff_ne, ne_eq, ite_not, Int.reduceEq, Option.getD_some, Option.getD_none, ite_self, Nat.reduceAdd, Nat.reduceSub, Nat.reduceMul, Nat.reduceLeDiff, Nat.reduceEqDiff, Nat.reduceBEq, Nat.reduceBNe, Int.reduceLT, Int.reduceLE, Int.reduceAdd, Int.reduceSub, Int.reduceMul, Int.reduceNeg, Int.reduceNe, Int.reduceBEq, Int.reduceBNe, Int.reduceToNat, hf, eq_true h1, run_shr, hsh, bsR_i, bsR_j, ap_first, ha, run_and, hu, hb, p_instr_Write_11111_eq, isCell_B, cells_B, low_B, isTup_B, cells_Z, isCell_Z, low_Z, stripC_Z, isTup_Z, strip_Z, Bool.or_false, Bool.false_or]
    | false =>
      rw [hbad] at hb
      simp (contextual := true) (dsimp := false) (disch := first | omega | (simp only [List.length_append, List.length_cons, List.length_nil, Int.toNat_natCast]; omega)) only [↓goDown, goUp, List.length_cons, List.length_nil, List.map_cons, List.map_nil, List.take_succ_cons, List.take_zero, List.drop_succ_cons, List.drop_zero, List.drop_nil, List.take_nil, List.cons_append, List.nil_append, List.append_nil, List.set_cons_zero, List.set_cons_succ, List.all_cons, List.all_nil, ↓reduceIte, reduceCtorEq, ge_iff_le, gt_iff_lt, eq_self_iff_true, beq_self_eq_true, beq_iff_eq, bne_iff_ne, ne_eq, ite_not, Int.reduceEq, Option.getD_some, Option.getD_none, ite_self, Nat.reduceAdd, Nat.reduceSub, Nat.reduceMul, Nat.reduceLeDiff, Nat.reduceEqDiff, Nat.reduceBEq, Nat.reduceBNe, Int.reduceLT, Int.reduceLE, Int.reduceAdd, Int.reduceSub, Int.reduceMul, Int.reduceNeg, Int.reduceNe, Int.reduceBEq, Int.reduceBNe, Int.reduceToNat, hf, eq_true h1, run_shr, hsh, bsR_i, bsR_j, ap_first, ha, run_and, hu, hb, p_instr_Write_11111_eq, isCell_B, cells_B, low_B, isTup_B, cells_Z, isCell_Z, low_Z, stripC_Z, isTup_Z, strip_Z, Bool.or_false, Bool.false_or]
  · rw [if_neg h1] at hs
    simp only [List.length_cons, List.length_nil] at hs
    have hb := iw_all (H := H) (v := v) (nm := (opP v.op).2.1) (o := (opP v.op).1) (fm := formN v.op) (b := [iByte v.op]) (f := false) (formN_lt _) hv (by simp only [List.length_cons, List.length_nil]; omega)
    unfold progW iOp iCat wOut
    simp only [if_neg h1, Bool.false_or]
    unfold cs_IG at hb ⊢
    rw [instr_Write_eq]
    cases hbad : (iBody (formN v.op) v).2 with
    | true =>
      rw [hbad] at hb
      simp (contextual := true) (dsimp := false) (disch := first | omega | (simp only [List.length_append, List.length_cons, List.length_nil, Int.toNat_natCast]; omega)) only [↓goDown, goUp, List.length_cons, List.length_nil, List.map_cons, List.map_nil, List.take_succ_cons, List.take_zero, List.drop_succ_cons, List.drop_zero, List.drop_nil, List.take_nil, List.cons_append, List.nil_append, List.append_nil, List.set_cons_zero, List.set_cons_succ, List.all_cons, List.all_nil, ↓reduceIte, reduceCtorEq, ge_iff_le, gt_iff_lt, eq_self_iff_true, beq_self_eq_true, beq_iff_eq, bne_iff_ne, ne_eq, ite_not, Int.reduceEq, Option.getD_some, Option.getD_none, ite_self, Nat.reduceAdd, Nat.reduceSub, Nat.reduceMul, Nat.reduceLeDiff, Nat.reduceEqDiff, Nat.reduceBEq, Nat.reduceBNe, Int.reduceLT, Int.reduceLE, Int.reduceAdd, Int.reduceSub, Int.reduceMul, Int.reduceNeg, Int.reduceNe, Int.reduceBEq, Int.reduceBNe, Int.reduceToNat, hf, h1, bsR_i, bsR_j, ap_first, hb, p_instr_Write_11111_eq, isCell_B, cells_B, low_B, isTup_B, cells_Z, isCell_Z, low_Z, stripC_Z, isTup_Z, strip_Z, Bool.or_false, Bool.false_or]
    | false =>
      rw [hbad] at hb
      simp (contextual := true) (dsimp := false) (disch := first | omega | (simp only [List.length_append, List.length_cons, List.length_nil, Int.toNat_natCast]; omega)) only [↓goDown, goUp, List.length_cons, List.length_nil, List.map_cons, List.map_nil, List.take_succ_cons, List.take_zero, List.drop_succ_cons, List.drop_zero, List.drop_nil, List.take_nil, List.cons_append, List.nil_append, List.append_nil, List.set_cons_zero, List.set_cons_succ, List.all_cons, List.all_nil, ↓reduceIte, reduceCtorEq, ge_iff_le, gt_iff_lt, eq_self_iff_true, beq_self_eq_true, beq_iff_eq, bne_iff_ne, ne_eq, ite_not, Int.reduceEq, Option.getD_some, Option.getD_none, ite_self, Nat.reduceAdd, Nat.reduceSub, Nat.reduceMul, Nat.reduceLeDiff, Nat.reduceEqDiff, Nat.reduceBEq, Nat.reduceBNe, Int.reduceLT, Int.reduceLE, Int.reduceAdd, Int.reduceSub, Int.reduceMul, Int.reduceNeg, Int.reduceNe, Int.reduceBEq, Int.reduceBNe, Int.reduceToNat, hf, h1, bsR_i, bsR_j, ap_first, hb, p_instr_Write_11111_eq, isCell_B, cells_B, low_B, isTup_B, cells_Z, isCell_Z, low_Z, stripC_Z, isTup_Z, strip_Z, Bool.or_false, Bool.false_or]
end Go.Proofs.Ythidcpkcfoldmaa.Pi.Q
namespace Go.Proofs.Ythidcpkcfoldmaa.Pi.Q
open Go Go.Proofs.Ythidcpkcfoldmaa.Pi
set_option linter.unusedVariables false
set_option linter.unusedSimpArgs false
set_option maxRecDepth 100000
attribute [local congr] ite_congr
variable {c : Nat} {H : Heap} {L : List Box} {b : List UInt8} {f : Bool}
theorem ruI {n : Int} (h0 : 0 ≤ n) (h1 : n < 18446744073709551616) : IWr c (C k_ratchetref09_writing_u [.ptr c 0, .int .u64 n]) (putU n.toNat, false) := IWr.mk fun H b f hc hs => by
  obtain ⟨n, rfl⟩ := Int.eq_ofNat_of_zero_le h0
  have hp := fun K => rputU_is (H := K) (n := n) (by omega)
  rw [ratchetref09_writing_u_eq, Int.toNat_natCast]
  rw [Int.toNat_natCast] at hs
  simp only at hs
  simp (contextual := true) (dsimp := false) (disch := omega) only [↓kDown, kUp, ↓goDown, goUp, List.length_cons, List.length_nil, List.map_cons, List.map_nil, List.take_succ_cons, List.take_zero, List.drop_succ_cons, List.drop_zero, List.drop_nil, List.take_nil, List.cons_append, List.nil_append, List.append_nil, List.set_cons_zero, List.set_cons_succ, List.all_cons, List.all_nil, ↓reduceIte, reduceCtorEq, ge_iff_le, gt_iff_lt, eq_self_iff_true, beq_self_eq_true, beq_iff_eq, bne_iff_ne, ne_eq, ite_not, Int.reduceEq, Option.getD_some, Option.getD_none, ite_self, Nat.reduceAdd, Nat.reduceSub, Nat.reduceMul, Nat.reduceLeDiff, Nat.reduceEqDiff, Nat.reduceBEq, Nat.reduceBNe, Int.reduceLT, Int.reduceLE, Int.reduceAdd, Int.reduceSub, Int.reduceMul, Int.reduceNeg, Int.reduceNe, Int.reduceBEq, Int.reduceBNe, Int.reduceToNat, hp, ap_Su, isCell_B, cells_B, low_B, encU_is, Bool.or_false]
theorem ruW {n : Int} (h0 : 0 ≤ n) (h1 : n < 18446744073709551616) (hc : c < List.length H) (hs : b.length + (putU n.toNat).length ≤ 140737488355328) : runK c (C k_ratchetref09_writing_u [.ptr c 0, .int .u64 n]) (St H c (.cells [accB b, .bool f]) L) = some (.ok (.tup []) (St H c (.cells [accB (b ++ putU n.toNat), .bool f]) L)) := by
  have := @ruI c n h0 h1 H L b f hc hs
  simpa using this
theorem ap_SZ {acc u : List UInt8} {K : Heap} (h : acc.length + u.length ≤ 140737488355328) : run (ap true 1 1 (accB acc) (LZ true 1 (bytes u))) K = some (.ok (accB (acc ++ u)) K) := by rw [ap_XZ, if_pos h]
theorem rheapI {h : Int} (hw : I64 h) : IWr c (C k_ratchetref09_writing_heap [.ptr c 0, .int .i64 h]) (iEnt (eH h)) := IWr.mk fun H b f hc hs => by
  obtain ⟨S, h1, h2, h3⟩ := geH_is hw
  simp only [iEnt] at hs ⊢
  rw [ratchetref09_writing_heap_eq]
  by_cases he : (eH h).2 = 0
  · have e2 : ((eH h).2 == 0) = true := beq_iff_eq.mpr he
    rw [e2]
    simp (contextual := true) (dsimp := false) (disch := omega) only [↓kDown, kUp, ↓goDown, goUp, List.length_cons, List.length_nil, List.map_cons, List.map_nil, List.take_succ_cons, List.take_zero, List.drop_succ_cons, List.drop_zero, List.drop_nil, List.take_nil, List.cons_append, List.nil_append, List.append_nil, List.set_cons_zero, List.set_cons_succ, List.all_cons, List.all_nil, ↓reduceIte, reduceCtorEq, ge_iff_le, gt_iff_lt, eq_self_iff_true, beq_self_eq_true, beq_iff_eq, bne_iff_ne, ne_eq, ite_not, Int.reduceEq, Option.getD_some, Option.getD_none, ite_self, Nat.reduceAdd, Nat.reduceSub, Nat.reduceMul, Nat.reduceLeDiff, Nat.reduceEqDiff, Nat.reduceBEq, Nat.reduceBNe, Int.reduceLT, Int.reduceLE, Int.reduceAdd, Int.reduceSub, Int.reduceMul, Int.reduceNeg, Int.reduceNe, Int.reduceBEq, Int.reduceBNe, Int.reduceToNat, toK (m := C k_ratchetref08_PutHeapType [.int .i64 h]), h1, h2, strip_Z, cells_Z, isCell_Z, low_Z, stripC_Z, isTup_Z, eq_true he, p_ratchetref09_writing_heap_11_eq, ap_SZ, isCell_B, cells_B, low_B, encU_is, Bool.or_false, Bool.not_true]
  · have e2 : ((eH h).2 == 0) = false := beq_false_of_ne he
    rw [e2]
    simp (contextual := true) (dsimp := false) (disch := omega) only [↓kDown, kUp, ↓goDown, goUp, List.length_cons, List.length_nil, List.map_cons, List.map_nil, List.take_succ_cons, List.take_zero, List.drop_succ_cons, List.drop_zero, List.drop_nil, List.take_nil, List.cons_append, List.nil_append, List.append_nil, List.set_cons_zero, List.set_cons_succ, List.all_cons, List.all_nil, ↓reduceIte, reduceCtorEq, ge_iff_le, gt_iff_lt, eq_self_iff_true, beq_self_eq_true, beq_iff_eq, bne_iff_ne, ne_eq, ite_not, Int.reduceEq, Option.getD_some, Option.getD_none, ite_self, Nat.reduceAdd, Nat.reduceSub, Nat.reduceMul, Nat.reduceLeDiff, Nat.reduceEqDiff, Nat.reduceBEq, Nat.reduceBNe, Int.reduceLT, Int.reduceLE, Int.reduceAdd, Int.reduceSub, Int.reduceMul, Int.reduceNeg, Int.reduceNe, Int.reduceBEq, Int.reduceBNe, Int.reduceToNat, toK (m := C k_ratchetref08_PutHeapType [.int .i64 h]), h1, h2, strip_Z, cells_Z, isCell_Z, low_Z, stripC_Z, isTup_Z, he, p_ratchetref09_writing_heap_11_eq, ap_SZ, isCell_B, cells_B, low_B, encU_is, Bool.or_true, Bool.not_false]
theorem rvalI {v : VT} (hw : I64 v.heap) : IWr c (C k_ratchetref09_writing_val [.ptr c 0, .agg [.int .i64 v.num, .bool v.nul, .int .i64 v.heap]]) (iVal v) := IWr.mk fun H b f hc hs => by
  obtain ⟨S, h1, h2, h3⟩ := geV_is hw
  simp only [iVal] at hs ⊢
  rw [ratchetref09_writing_val_eq]
  by_cases he : (eV v).2 = 0
  · have e2 : ((eV v).2 == 0) = true := beq_iff_eq.mpr he
    rw [e2]
    simp (contextual := true) (dsimp := false) (disch := omega) only [↓kDown, kUp, ↓goDown, goUp, List.length_cons, List.length_nil, List.map_cons, List.map_nil, List.take_succ_cons, List.take_zero, List.drop_succ_cons, List.drop_zero, List.drop_nil, List.take_nil, List.cons_append, List.nil_append, List.append_nil, List.set_cons_zero, List.set_cons_succ, List.all_cons, List.all_nil, ↓reduceIte, reduceCtorEq, ge_iff_le, gt_iff_lt, eq_self_iff_true, beq_self_eq_true, beq_iff_eq, bne_iff_ne, ne_eq, ite_not, Int.reduceEq, Option.getD_some, Option.getD_none, ite_self, Nat.reduceAdd, Nat.reduceSub, Nat.reduceMul, Nat.reduceLeDiff, Nat.reduceEqDiff, Nat.reduceBEq, Nat.reduceBNe, Int.reduceLT, Int.reduceLE, Int.reduceAdd, Int.reduceSub, Int.reduceMul, Int.reduceNeg, Int.reduceNe, Int.reduceBEq, Int.reduceBNe, Int.reduceToNat, toK (m := C k_ratchetref08_PutValType [.agg [.int .i64 v.num, .bool v.nul, .int .i64 v.heap]]), h1, h2, strip_Z, cells_Z, isCell_Z, low_Z, stripC_Z, isTup_Z, eq_true he, p_ratchetref09_writing_val_111_eq, ap_SZ, isCell_B, cells_B, low_B, encU_is, Bool.or_false, Bool.not_true]
  · have e2 : ((eV v).2 == 0) = false := beq_false_of_ne he
    rw [e2]
    simp (contextual := true) (dsimp := false) (disch := omega) only [↓kDown, kUp, ↓goDown, goUp, List.length_cons, List.length_nil, List.map_cons, List.map_nil, List.take_succ_cons, List.take_zero, List.drop_succ_cons, List.drop_zero, List.drop_nil, List.take_nil, List.cons_append, List.nil_append, List.append_nil, List.set_cons_zero, List.set_cons_succ, List.all_cons, List.all_nil, ↓reduceIte, reduceCtorEq, ge_iff_le, gt_iff_lt, eq_self_iff_true, beq_self_eq_true, beq_iff_eq, bne_iff_ne, ne_eq, ite_not, Int.reduceEq, Option.getD_some, Option.getD_none, ite_self, Nat.reduceAdd, Nat.reduceSub, Nat.reduceMul, Nat.reduceLeDiff, Nat.reduceEqDiff, Nat.reduceBEq, Nat.reduceBNe, Int.reduceLT, Int.reduceLE, Int.reduceAdd, Int.reduceSub, Int.reduceMul, Int.reduceNeg, Int.reduceNe, Int.reduceBEq, Int.reduceBNe, Int.reduceToNat, toK (m := C k_ratchetref08_PutValType [.agg [.int .i64 v.num, .bool v.nul, .int .i64 v.heap]]), h1, h2, strip_Z, cells_Z, isCell_Z, low_Z, stripC_Z, isTup_Z, he, p_ratchetref09_writing_val_111_eq, ap_SZ, isCell_B, cells_B, low_B, encU_is, Bool.or_true, Bool.not_false]
theorem rblockI {v : BK} (hw : I64 v.res.heap) (ht : I64 v.ty) : IWr c (C k_ratchetref09_writing_block [.ptr c 0, .agg [.int .i64 v.ty, .int .i64 v.res.num, .bool v.res.nul, .int .i64 v.res.heap]]) (iEnt (eB v)) := IWr.mk fun H b f hc hs => by
  obtain ⟨S, h1, h2, h3⟩ := geB_is hw ht.2
  simp only [iEnt] at hs ⊢
  rw [ratchetref09_writing_block_eq]
  by_cases he : (eB v).2 = 0
  · have e2 : ((eB v).2 == 0) = true := beq_iff_eq.mpr he
    rw [e2]
    simp (contextual := true) (dsimp := false) (disch := omega) only [↓kDown, kUp, ↓goDown, goUp, List.length_cons, List.length_nil, List.map_cons, List.map_nil, List.take_succ_cons, List.take_zero, List.drop_succ_cons, List.drop_zero, List.drop_nil, List.take_nil, List.cons_append, List.nil_append, List.append_nil, List.set_cons_zero, List.set_cons_succ, List.all_cons, List.all_nil, ↓reduceIte, reduceCtorEq, ge_iff_le, gt_iff_lt, eq_self_iff_true, beq_self_eq_true, beq_iff_eq, bne_iff_ne, ne_eq, ite_not, Int.reduceEq, Option.getD_some, Option.getD_none, ite_self, Nat.reduceAdd, Nat.reduceSub, Nat.reduceMul, Nat.reduceLeDiff, Nat.reduceEqDiff, Nat.reduceBEq, Nat.reduceBNe, Int.reduceLT, Int.reduceLE, Int.reduceAdd, Int.reduceSub, Int.reduceMul, Int.reduceNeg, Int.reduceNe, Int.reduceBEq, Int.reduceBNe, Int.reduceToNat, toK (m := C k_ratchetref08_PutBlockType [.agg [.int .i64 v.ty, .int .i64 v.res.num, .bool v.res.nul, .int .i64 v.res.heap]]), h1, h2, strip_Z, cells_Z, isCell_Z, low_Z, stripC_Z, isTup_Z, eq_true he, p_ratchetref09_writing_block_111_eq, ap_SZ, isCell_B, cells_B, low_B, encU_is, Bool.or_false, Bool.not_true]
  · have e2 : ((eB v).2 == 0) = false := beq_false_of_ne he
    rw [e2]
    simp (contextual := true) (dsimp := false) (disch := omega) only [↓kDown, kUp, ↓goDown, goUp, List.length_cons, List.length_nil, List.map_cons, List.map_nil, List.take_succ_cons, List.take_zero, List.drop_succ_cons, List.drop_zero, List.drop_nil, List.take_nil, List.cons_append, List.nil_append, List.append_nil, List.set_cons_zero, List.set_cons_succ, List.all_cons, List.all_nil, ↓reduceIte, reduceCtorEq, ge_iff_le, gt_iff_lt, eq_self_iff_true, beq_self_eq_true, beq_iff_eq, bne_iff_ne, ne_eq, ite_not, Int.reduceEq, Option.getD_some, Option.getD_none, ite_self, Nat.reduceAdd, Nat.reduceSub, Nat.reduceMul, Nat.reduceLeDiff, Nat.reduceEqDiff, Nat.reduceBEq, Nat.reduceBNe, Int.reduceLT, Int.reduceLE, Int.reduceAdd, Int.reduceSub, Int.reduceMul, Int.reduceNeg, Int.reduceNe, Int.reduceBEq, Int.reduceBNe, Int.reduceToNat, toK (m := C k_ratchetref08_PutBlockType [.agg [.int .i64 v.ty, .int .i64 v.res.num, .bool v.res.nul, .int .i64 v.res.heap]]), h1, h2, strip_Z, cells_Z, isCell_Z, low_Z, stripC_Z, isTup_Z, he, p_ratchetref09_writing_block_111_eq, ap_SZ, isCell_B, cells_B, low_B, encU_is, Bool.or_true, Bool.not_false]
theorem rmemI {m : MG} (h1 : U32 m.align) (h2 : U32 m.mem) (h3 : 0 ≤ m.off ∧ m.off < 18446744073709551616) : IWr c (C k_ratchetref09_writing_mem [.ptr c 0, .agg [.int .u32 m.align, .int .u32 m.mem, .int .u64 m.off]]) (iMem m) := IWr.mk fun H b f hc hs => by
  obtain ⟨align, mem, off⟩ := m
  obtain ⟨a0, a1⟩ := h1
  obtain ⟨b0, b1⟩ := h2
  simp only [iMem] at a0 a1 b0 b1 h3 hs ⊢
  rw [ratchetref09_writing_mem_eq]
  by_cases ha : align < 64
  · have ha' : ¬ 64 ≤ align := by omega
    rw [decide_eq_true ha]
    by_cases hm : mem = 0
    · subst hm
      rw [if_pos rfl] at hs ⊢
      simp only [List.length_append] at hs
      simp (contextual := true) (dsimp := false) (disch := first | omega | (simp only [List.length_append, List.length_cons, List.length_nil, Int.toNat_natCast]; omega)) only [↓kDown, kUp, ↓goDown, goUp, List.length_cons, List.length_nil, List.map_cons, List.map_nil, List.take_succ_cons, List.take_zero, List.drop_succ_cons, List.drop_zero, List.drop_nil, List.take_nil, List.cons_append, List.nil_append, List.append_nil, List.set_cons_zero, List.set_cons_succ, List.all_cons, List.all_nil, ↓reduceIte, reduceCtorEq, ge_iff_le, gt_iff_lt, eq_self_iff_true, beq_self_eq_true, beq_iff_eq, bne_iff_ne, ne_eq, ite_not, Int.reduceEq, Option.getD_some, Option.getD_none, ite_self, Nat.reduceAdd, Nat.reduceSub, Nat.reduceMul, Nat.reduceLeDiff, Nat.reduceEqDiff, Nat.reduceBEq, Nat.reduceBNe, Int.reduceLT, Int.reduceLE, Int.reduceAdd, Int.reduceSub, Int.reduceMul, Int.reduceNeg, Int.reduceNe, Int.reduceBEq, Int.reduceBNe, Int.reduceToNat, ha', ruW, p_ratchetref09_writing_mem_11_eq, p_ratchetref09_writing_mem_111_eq, encU_is, List.append_assoc, Bool.not_true, Bool.or_false]
    · rw [if_neg hm] at hs ⊢
      simp only [List.length_append] at hs
      simp (contextual := true) (dsimp := false) (disch := first | omega | (simp only [List.length_append, List.length_cons, List.length_nil, Int.toNat_natCast]; omega)) only [↓kDown, kUp, ↓goDown, goUp, List.length_cons, List.length_nil, List.map_cons, List.map_nil, List.take_succ_cons, List.take_zero, List.drop_succ_cons, List.drop_zero, List.drop_nil, List.take_nil, List.cons_append, List.nil_append, List.append_nil, List.set_cons_zero, List.set_cons_succ, List.all_cons, List.all_nil, ↓reduceIte, reduceCtorEq, ge_iff_le, gt_iff_lt, eq_self_iff_true, beq_self_eq_true, beq_iff_eq, bne_iff_ne, ne_eq, ite_not, Int.reduceEq, Option.getD_some, Option.getD_none, ite_self, Nat.reduceAdd, Nat.reduceSub, Nat.reduceMul, Nat.reduceLeDiff, Nat.reduceEqDiff, Nat.reduceBEq, Nat.reduceBNe, Int.reduceLT, Int.reduceLE, Int.reduceAdd, Int.reduceSub, Int.reduceMul, Int.reduceNeg, Int.reduceNe, Int.reduceBEq, Int.reduceBNe, Int.reduceToNat, ha', hm, ruW, p_ratchetref09_writing_mem_11_eq, p_ratchetref09_writing_mem_111_eq, encU_is, List.append_assoc, Bool.not_true, Bool.or_false]
  · have ha' : 64 ≤ align := by omega
    rw [decide_eq_false ha]
    by_cases hm : mem = 0
    · subst hm
      rw [if_pos rfl] at hs ⊢
      simp only [List.length_append] at hs
      simp (contextual := true) (dsimp := false) (disch := first | omega | (simp only [List.length_append, List.length_cons, List.length_nil, Int.toNat_natCast]; omega)) only [↓kDown, kUp, ↓goDown, goUp, List.length_cons, List.length_nil, List.map_cons, List.map_nil, List.take_succ_cons, List.take_zero, List.drop_succ_cons, List.drop_zero, List.drop_nil, List.take_nil, List.cons_append, List.nil_append, List.append_nil, List.set_cons_zero, List.set_cons_succ, List.all_cons, List.all_nil, ↓reduceIte, reduceCtorEq, ge_iff_le, gt_iff_lt, eq_self_iff_true, beq_self_eq_true, beq_iff_eq, bne_iff_ne, ne_eq, ite_not, Int.reduceEq, Option.getD_some, Option.getD_none, ite_self, Nat.reduceAdd, Nat.reduceSub, Nat.reduceMul, Nat.reduceLeDiff, Nat.reduceEqDiff, Nat.reduceBEq, Nat.reduceBNe, Int.reduceLT, Int.reduceLE, Int.reduceAdd, Int.reduceSub, Int.reduceMul, Int.reduceNeg, Int.reduceNe, Int.reduceBEq, Int.reduceBNe, Int.reduceToNat, eq_true ha', isCell_B, cells_B, low_B, ruW, p_ratchetref09_writing_mem_11_eq, p_ratchetref09_writing_mem_111_eq, encU_is, List.append_assoc, Bool.not_false, Bool.or_true]
    · rw [if_neg hm] at hs ⊢
      simp only [List.length_append] at hs
      simp (contextual := true) (dsimp := false) (disch := first | omega | (simp only [List.length_append, List.length_cons, List.length_nil, Int.toNat_natCast]; omega)) only [↓kDown, kUp, ↓goDown, goUp, List.length_cons, List.length_nil, List.map_cons, List.map_nil, List.take_succ_cons, List.take_zero, List.drop_succ_cons, List.drop_zero, List.drop_nil, List.take_nil, List.cons_append, List.nil_append, List.append_nil, List.set_cons_zero, List.set_cons_succ, List.all_cons, List.all_nil, ↓reduceIte, reduceCtorEq, ge_iff_le, gt_iff_lt, eq_self_iff_true, beq_self_eq_true, beq_iff_eq, bne_iff_ne, ne_eq, ite_not, Int.reduceEq, Option.getD_some, Option.getD_none, ite_self, Nat.reduceAdd, Nat.reduceSub, Nat.reduceMul, Nat.reduceLeDiff, Nat.reduceEqDiff, Nat.reduceBEq, Nat.reduceBNe, Int.reduceLT, Int.reduceLE, Int.reduceAdd, Int.reduceSub, Int.reduceMul, Int.reduceNeg, Int.reduceNe, Int.reduceBEq, Int.reduceBNe, Int.reduceToNat, eq_true ha', hm, isCell_B, cells_B, low_B, ruW, p_ratchetref09_writing_mem_11_eq, p_ratchetref09_writing_mem_111_eq, encU_is, List.append_assoc, Bool.not_false, Bool.or_true]
theorem q256 {n : Int} (h : 0 ≤ n) : IntKind.i64.wrap (n.tdiv 256) = IntKind.i64.wrap (n / 256) := by rw [Int.tdiv_eq_ediv_of_nonneg h]
theorem ropcodeI {op : Int} (hw : I64 op) : IWr c (C k_ratchetref09_writing_opcode [.ptr c 0, .int .i64 op]) (iOp op) := IWr.mk fun H b f hc hs => by
  obtain ⟨w1, w2⟩ := hw
  rw [ratchetref09_writing_opcode_eq]
  unfold iOp at hs ⊢
  by_cases h1 : 255 < op
  · have h2 : 256 ≤ op := by omega
    have e1 := q256 (n := op) (by omega)
    have e2 : op.tmod 256 = op % 256 := Int.tmod_eq_emod_of_nonneg (by omega)
    simp only [if_pos h1, List.length_cons] at hs ⊢
    simp (contextual := true) (dsimp := false) (disch := first | omega | (simp only [List.length_append, List.length_cons, List.length_nil, Int.toNat_natCast]; omega)) only [↓kDown, kUp, ↓goDown, goUp, List.length_cons, List.length_nil, List.map_cons, List.map_nil, List.take_succ_cons, List.take_zero, List.drop_succ_cons, List.drop_zero, List.drop_nil, List.take_nil, List.cons_append, List.nil_append, List.append_nil, List.set_cons_zero, List.set_cons_succ, List.all_cons, List.all_nil, ↓reduceIte, reduceCtorEq, ge_iff_le, gt_iff_lt, eq_self_iff_true, beq_self_eq_true, beq_iff_eq, bne_iff_ne, ne_eq, ite_not, Int.reduceEq, Option.getD_some, Option.getD_none, ite_self, Nat.reduceAdd, Nat.reduceSub, Nat.reduceMul, Nat.reduceLeDiff, Nat.reduceEqDiff, Nat.reduceBEq, Nat.reduceBNe, Int.reduceLT, Int.reduceLE, Int.reduceAdd, Int.reduceSub, Int.reduceMul, Int.reduceNeg, Int.reduceNe, Int.reduceBEq, Int.reduceBNe, Int.reduceToNat, eq_true h2, e1, e2, run_quo, run_rem, bsR_i, bsR_j, ap_S1, ruW, isCell_B, cells_B, low_B, encU_is, List.append_assoc, Bool.or_false]
  · have h2 : ¬ 256 ≤ op := by omega
    simp only [if_neg h1, List.length_cons, List.length_nil] at hs ⊢
    simp (contextual := true) (dsimp := false) (disch := first | omega | (simp only [List.length_append, List.length_cons, List.length_nil, Int.toNat_natCast]; omega)) only [↓kDown, kUp, ↓goDown, goUp, List.length_cons, List.length_nil, List.map_cons, List.map_nil, List.take_succ_cons, List.take_zero, List.drop_succ_cons, List.drop_zero, List.drop_nil, List.take_nil, List.cons_append, List.nil_append, List.append_nil, List.set_cons_zero, List.set_cons_succ, List.all_cons, List.all_nil, ↓reduceIte, reduceCtorEq, ge_iff_le, gt_iff_lt, eq_self_iff_true, beq_self_eq_true, beq_iff_eq, bne_iff_ne, ne_eq, ite_not, Int.reduceEq, Option.getD_some, Option.getD_none, ite_self, Nat.reduceAdd, Nat.reduceSub, Nat.reduceMul, Nat.reduceLeDiff, Nat.reduceEqDiff, Nat.reduceBEq, Nat.reduceBNe, Int.reduceLT, Int.reduceLE, Int.reduceAdd, Int.reduceSub, Int.reduceMul, Int.reduceNeg, Int.reduceNe, Int.reduceBEq, Int.reduceBNe, Int.reduceToNat, h2, bsR_i, bsR_j, ap_S1, isCell_B, cells_B, low_B, encU_is, List.append_assoc, Bool.or_false]
theorem rclauses_loop {z : Bool} {l : List CH} (hl : l.length < 2 ^ 62) (hw : ∀ v ∈ l, U32 v.tag ∧ U32 v.label) : ∀ (m i : Nat) (b : List UInt8) (f : Bool) (L : List Box) (H : Heap), i + m = l.length → c < List.length H → b.length + (iAll iCatch (l.drop i)).1.length ≤ 140737488355328 →
    runK c (p_ratchetref09_writing_clauses_1110 (.ptr c 0) (LZ z 3 (l.map encCH)) (.int .i64 i)) (St H c (.cells [accB b, .bool f]) L) = some (.ok (.tup []) (St H c (.cells [accB (b ++ (iAll iCatch (l.drop i)).1), .bool (f || (iAll iCatch (l.drop i)).2)]) L))
  | 0, i, b, f, L, H, hi, hc, hs => by
    have c1 : ¬ (i : Int) < l.length := by omega
    have e0 : l.drop i = [] := List.drop_eq_nil_of_le (by omega)
    rw [e0, p_ratchetref09_writing_clauses_1110_eq]
    simp (contextual := true) (dsimp := false) (disch := omega) only [↓kDown, kUp, ↓goDown, goUp, List.length_cons, List.length_nil, List.map_cons, List.map_nil, List.take_succ_cons, List.take_zero, List.drop_succ_cons, List.drop_zero, List.drop_nil, List.take_nil, List.cons_append, List.nil_append, List.append_nil, List.set_cons_zero, List.set_cons_succ, List.all_cons, List.all_nil, ↓reduceIte, reduceCtorEq, ge_iff_le, gt_iff_lt, eq_self_iff_true, beq_self_eq_true, beq_iff_eq, bne_iff_ne, ne_eq, ite_not, Int.reduceEq, Option.getD_some, Option.getD_none, ite_self, Nat.reduceAdd, Nat.reduceSub, Nat.reduceMul, Nat.reduceLeDiff, Nat.reduceEqDiff, Nat.reduceBEq, Nat.reduceBNe, Int.reduceLT, Int.reduceLE, Int.reduceAdd, Int.reduceSub, Int.reduceMul, Int.reduceNeg, Int.reduceNe, Int.reduceBEq, Int.reduceBNe, Int.reduceToNat, strip_Z, ln_Z, List.length_map, c1, iAll, encU_is, Bool.or_false]
  | m + 1, i, b, f, L, H, hi, hc, hs => by
    have c1 : (i : Int) < l.length := by omega
    have hil : i < l.length := by omega
    have hg : (l.map encCH)[i]? = some (encCH l[i]) := by simp [hil]
    have hia : ∀ K, run (iaS 3 (LZ z 3 (l.map encCH)) (.int .i64 i)) K = some (.ok (.elem [.int .i64 l[i].kind, .int .u32 l[i].tag, .int .u32 l[i].label]) K) := fun K => (ia_Z hg).trans rfl
    have hd : l.drop i = l[i] :: l.drop (i + 1) := List.drop_eq_getElem_cons hil
    have e1 : ((i : Int) + 1) = ((i + 1 : Nat) : Int) := rfl
    rw [hd] at hs ⊢
    obtain ⟨⟨t0, t1⟩, ⟨b0, b1⟩⟩ := hw l[i] (List.getElem_mem hil)
    simp only [iAll, iCat, iCatch, List.length_append, List.length_cons, List.length_nil] at hs ⊢
    have ih := rclauses_loop (z := z) hl hw m (i + 1) (b ++ ([iByte l[i].kind] ++ (iTag l[i] ++ putU l[i].label.toNat))) (f || !catchOk l[i]) L H (by omega) hc (by simp only [List.length_append, List.length_cons, List.length_nil]; omega)
    rw [p_ratchetref09_writing_clauses_1110_eq]
    by_cases k2 : l[i].kind < 2
    · have eT : iTag l[i] = putU l[i].tag.toNat := if_pos k2
      rw [eT] at hs ih ⊢
      have k1 : ¬ 1 < l[i].kind := by omega
      have k3 : ¬ 3 < l[i].kind := by omega
      by_cases k0 : l[i].kind < 0
      · have eC : catchOk l[i] = false := by unfold catchOk; simp; omega
        rw [eC] at ih ⊢
        simp only [List.append_assoc, List.cons_append, List.nil_append, Bool.or_assoc, Bool.not_true, Bool.not_false, Bool.or_false, Bool.false_or, Bool.true_or, Bool.or_true] at ih
        simp (contextual := true) (dsimp := false) (disch := first | omega | (simp only [List.length_append, List.length_cons, List.length_nil]; omega)) only [↓kDown, kUp, ↓goDown, goUp, List.length_cons, List.length_nil, List.map_cons, List.map_nil, List.take_succ_cons, List.take_zero, List.drop_succ_cons, List.drop_zero, List.drop_nil, List.take_nil, List.cons_append, List.nil_append, List.append_nil, List.set_cons_zero, List.set_cons_succ, List.all_cons, List.all_nil, ↓reduceIte, reduceCtorEq, ge_iff_le, gt_iff_lt, eq_self_iff_true, beq_self_eq_true, beq_iff_eq, bne_iff_ne, ne_eq, ite_not, Int.reduceEq, Option.getD_some, Option.getD_none, ite_self, Nat.reduceAdd, Nat.reduceSub, Nat.reduceMul, Nat.reduceLeDiff, Nat.reduceEqDiff, Nat.reduceBEq, Nat.reduceBNe, Int.reduceLT, Int.reduceLE, Int.reduceAdd, Int.reduceSub, Int.reduceMul, Int.reduceNeg, Int.reduceNe, Int.reduceBEq, Int.reduceBNe, Int.reduceToNat, c1, hia, e1, eq_true k0, eq_true k2, ln_Z, List.length_map, bsR_i, bsR_j, ap_S1, ruW, p_ratchetref09_writing_clauses_111001001_eq, p_ratchetref09_writing_clauses_11100100111_eq, isCell_B, cells_B, low_B, ih, cells_Z, isCell_Z, low_Z, stripC_Z, isTup_Z, strip_Z, List.append_assoc, List.cons_append, List.nil_append, Bool.or_assoc, Bool.not_true, Bool.not_false, Bool.or_false, Bool.false_or, Bool.true_or, Bool.or_true]
      · have eC : catchOk l[i] = true := by unfold catchOk; simp; omega
        rw [eC] at ih ⊢
        simp only [List.append_assoc, List.cons_append, List.nil_append, Bool.or_assoc, Bool.not_true, Bool.not_false, Bool.or_false, Bool.false_or, Bool.true_or, Bool.or_true] at ih
        simp (contextual := true) (dsimp := false) (disch := first | omega | (simp only [List.length_append, List.length_cons, List.length_nil]; omega)) only [↓kDown, kUp, ↓goDown, goUp, List.length_cons, List.length_nil, List.map_cons, List.map_nil, List.take_succ_cons, List.take_zero, List.drop_succ_cons, List.drop_zero, List.drop_nil, List.take_nil, List.cons_append, List.nil_append, List.append_nil, List.set_cons_zero, List.set_cons_succ, List.all_cons, List.all_nil, ↓reduceIte, reduceCtorEq, ge_iff_le, gt_iff_lt, eq_self_iff_true, beq_self_eq_true, beq_iff_eq, bne_iff_ne, ne_eq, ite_not, Int.reduceEq, Option.getD_some, Option.getD_none, ite_self, Nat.reduceAdd, Nat.reduceSub, Nat.reduceMul, Nat.reduceLeDiff, Nat.reduceEqDiff, Nat.reduceBEq, Nat.reduceBNe, Int.reduceLT, Int.reduceLE, Int.reduceAdd, Int.reduceSub, Int.reduceMul, Int.reduceNeg, Int.reduceNe, Int.reduceBEq, Int.reduceBNe, Int.reduceToNat, c1, hia, e1, k0, k1, k3, eq_true k2, ln_Z, List.length_map, bsR_i, bsR_j, ap_S1, ruW, p_ratchetref09_writing_clauses_111001001_eq, p_ratchetref09_writing_clauses_11100100111_eq, isCell_B, cells_B, low_B, ih, cells_Z, isCell_Z, low_Z, stripC_Z, isTup_Z, strip_Z, List.append_assoc, List.cons_append, List.nil_append, Bool.or_assoc, Bool.not_true, Bool.not_false, Bool.or_false, Bool.false_or, Bool.true_or, Bool.or_true]
    · have eT : iTag l[i] = [] := if_neg k2
      rw [eT] at hs ih ⊢
      have k0 : ¬ l[i].kind < 0 := by omega
      have k1 : 1 < l[i].kind := by omega
      by_cases k3 : 3 < l[i].kind
      · have eC : catchOk l[i] = false := by unfold catchOk; simp; omega
        rw [eC] at ih ⊢
        simp only [List.append_assoc, List.cons_append, List.nil_append, Bool.or_assoc, Bool.not_true, Bool.not_false, Bool.or_false, Bool.false_or, Bool.true_or, Bool.or_true] at ih
        simp (contextual := true) (dsimp := false) (disch := first | omega | (simp only [List.length_append, List.length_cons, List.length_nil]; omega)) only [↓kDown, kUp, ↓goDown, goUp, List.length_cons, List.length_nil, List.map_cons, List.map_nil, List.take_succ_cons, List.take_zero, List.drop_succ_cons, List.drop_zero, List.drop_nil, List.take_nil, List.cons_append, List.nil_append, List.append_nil, List.set_cons_zero, List.set_cons_succ, List.all_cons, List.all_nil, ↓reduceIte, reduceCtorEq, ge_iff_le, gt_iff_lt, eq_self_iff_true, beq_self_eq_true, beq_iff_eq, bne_iff_ne, ne_eq, ite_not, Int.reduceEq, Option.getD_some, Option.getD_none, ite_self, Nat.reduceAdd, Nat.reduceSub, Nat.reduceMul, Nat.reduceLeDiff, Nat.reduceEqDiff, Nat.reduceBEq, Nat.reduceBNe, Int.reduceLT, Int.reduceLE, Int.reduceAdd, Int.reduceSub, Int.reduceMul, Int.reduceNeg, Int.reduceNe, Int.reduceBEq, Int.reduceBNe, Int.reduceToNat, c1, hia, e1, k0, eq_true k3, k2, ln_Z, List.length_map, bsR_i, bsR_j, ap_S1, ruW, p_ratchetref09_writing_clauses_111001001_eq, p_ratchetref09_writing_clauses_11100100111_eq, isCell_B, cells_B, low_B, ih, cells_Z, isCell_Z, low_Z, stripC_Z, isTup_Z, strip_Z, List.append_assoc, List.cons_append, List.nil_append, Bool.or_assoc, Bool.not_true, Bool.not_false, Bool.or_false, Bool.false_or, Bool.true_or, Bool.or_true]
      · by_cases kt : l[i].tag = 0
        · have eC : catchOk l[i] = true := by unfold catchOk; simp; omega
          have kt2 : (l[i].tag == 0) = true := beq_iff_eq.mpr kt
          have kt3 : (l[i].tag != 0) = false := by rw [bne, kt2]; rfl
          rw [eC] at ih ⊢
          simp only [List.append_assoc, List.cons_append, List.nil_append, Bool.or_assoc, Bool.not_true, Bool.not_false, Bool.or_false, Bool.false_or, Bool.true_or, Bool.or_true] at ih
          simp (contextual := true) (dsimp := false) (disch := first | omega | (simp only [List.length_append, List.length_cons, List.length_nil]; omega)) only [↓kDown, kUp, ↓goDown, goUp, List.length_cons, List.length_nil, List.map_cons, List.map_nil, List.take_succ_cons, List.take_zero, List.drop_succ_cons, List.drop_zero, List.drop_nil, List.take_nil, List.cons_append, List.nil_append, List.append_nil, List.set_cons_zero, List.set_cons_succ, List.all_cons, List.all_nil, ↓reduceIte, reduceCtorEq, ge_iff_le, gt_iff_lt, eq_self_iff_true, beq_self_eq_true, beq_iff_eq, bne_iff_ne, ne_eq, ite_not, Int.reduceEq, Option.getD_some, Option.getD_none, ite_self, Nat.reduceAdd, Nat.reduceSub, Nat.reduceMul, Nat.reduceLeDiff, Nat.reduceEqDiff, Nat.reduceBEq, Nat.reduceBNe, Int.reduceLT, Int.reduceLE, Int.reduceAdd, Int.reduceSub, Int.reduceMul, Int.reduceNeg, Int.reduceNe, Int.reduceBEq, Int.reduceBNe, Int.reduceToNat, c1, hia, e1, k0, k3, eq_true k1, k2, kt3, ln_Z, List.length_map, bsR_i, bsR_j, ap_S1, ruW, p_ratchetref09_writing_clauses_111001001_eq, p_ratchetref09_writing_clauses_11100100111_eq, isCell_B, cells_B, low_B, ih, cells_Z, isCell_Z, low_Z, stripC_Z, isTup_Z, strip_Z, List.append_assoc, List.cons_append, List.nil_append, Bool.or_assoc, Bool.not_true, Bool.not_false, Bool.or_false, Bool.false_or, Bool.true_or, Bool.or_true]
        · have eC : catchOk l[i] = false := by unfold catchOk; simp; omega
          have kt3 : (l[i].tag != 0) = true := bne_iff_ne.mpr kt
          rw [eC] at ih ⊢
          simp only [List.append_assoc, List.cons_append, List.nil_append, Bool.or_assoc, Bool.not_true, Bool.not_false, Bool.or_false, Bool.false_or, Bool.true_or, Bool.or_true] at ih
          simp (contextual := true) (dsimp := false) (disch := first | omega | (simp only [List.length_append, List.length_cons, List.length_nil]; omega)) only [↓kDown, kUp, ↓goDown, goUp, List.length_cons, List.length_nil, List.map_cons, List.map_nil, List.take_succ_cons, List.take_zero, List.drop_succ_cons, List.drop_zero, List.drop_nil, List.take_nil, List.cons_append, List.nil_append, List.append_nil, List.set_cons_zero, List.set_cons_succ, List.all_cons, List.all_nil, ↓reduceIte, reduceCtorEq, ge_iff_le, gt_iff_lt, eq_self_iff_true, beq_self_eq_true, beq_iff_eq, bne_iff_ne, ne_eq, ite_not, Int.reduceEq, Option.getD_some, Option.getD_none, ite_self, Nat.reduceAdd, Nat.reduceSub, Nat.reduceMul, Nat.reduceLeDiff, Nat.reduceEqDiff, Nat.reduceBEq, Nat.reduceBNe, Int.reduceLT, Int.reduceLE, Int.reduceAdd, Int.reduceSub, Int.reduceMul, Int.reduceNeg, Int.reduceNe, Int.reduceBEq, Int.reduceBNe, Int.reduceToNat, c1, hia, e1, k0, k3, eq_true k1, k2, kt3, ln_Z, List.length_map, bsR_i, bsR_j, ap_S1, ruW, p_ratchetref09_writing_clauses_111001001_eq, p_ratchetref09_writing_clauses_11100100111_eq, isCell_B, cells_B, low_B, ih, cells_Z, isCell_Z, low_Z, stripC_Z, isTup_Z, strip_Z, List.append_assoc, List.cons_append, List.nil_append, Bool.or_assoc, Bool.not_true, Bool.not_false, Bool.or_false, Bool.false_or, Bool.true_or, Bool.or_true]
def iClauses (l : List CH) : IW := iCat ([], !decide ((l.length : Int) ≤ 65536)) (iCat (putU l.length, false) (iAll iCatch l))
theorem rclausesI {z : Bool} {l : List CH} (hl : l.length < 2 ^ 62) (hw : ∀ a ∈ l, U32 a.tag ∧ U32 a.label) : IWr c (C k_ratchetref09_writing_clauses [.ptr c 0, LZ z 3 (l.map encCH)]) (iClauses l) := IWr.mk fun H b f hc hs => by
  simp only [iClauses, iCat, List.length_append, List.length_nil] at hs ⊢
  have h := rclauses_loop (z := z) hl hw l.length 0 (b ++ putU l.length) (f || !decide ((l.length : Int) ≤ 65536)) [] H (by omega) hc (by simp only [List.length_append, List.drop_zero]; omega)
  have e0 : ((0 : Nat) : Int) = 0 := rfl
  simp only [e0, List.drop_zero, List.append_assoc, Bool.or_assoc] at h
  have hln : ∀ K, run (lnL (LZ z 3 (l.map encCH))) K = some (.ok (.int .i64 l.length) K) := fun K => by rw [ln_Z, List.length_map]
  rw [ratchetref09_writing_clauses_eq]
  by_cases hm : (l.length : Int) ≤ 65536
  · have hm' : ¬ 65536 < (l.length : Int) := by omega
    rw [decide_eq_true hm] at h ⊢
    simp only [Bool.not_true, Bool.or_false, Bool.false_or] at h
    simp (contextual := true) (dsimp := false) (disch := first | omega | (simp only [List.length_append, List.length_cons, List.length_nil, Int.toNat_natCast]; omega)) only [↓kDown, kUp, ↓goDown, goUp, List.length_cons, List.length_nil, List.map_cons, List.map_nil, List.take_succ_cons, List.take_zero, List.drop_succ_cons, List.drop_zero, List.drop_nil, List.take_nil, List.cons_append, List.nil_append, List.append_nil, List.set_cons_zero, List.set_cons_succ, List.all_cons, List.all_nil, ↓reduceIte, reduceCtorEq, ge_iff_le, gt_iff_lt, eq_self_iff_true, beq_self_eq_true, beq_iff_eq, bne_iff_ne, ne_eq, ite_not, Int.reduceEq, Option.getD_some, Option.getD_none, ite_self, Nat.reduceAdd, Nat.reduceSub, Nat.reduceMul, Nat.reduceLeDiff, Nat.reduceEqDiff, Nat.reduceBEq, Nat.reduceBNe, Int.reduceLT, Int.reduceLE, Int.reduceAdd, Int.reduceSub, Int.reduceMul, Int.reduceNeg, Int.reduceNe, Int.reduceBEq, Int.reduceBNe, Int.reduceToNat, strip_Z, hln, hm', p_ratchetref09_writing_clauses_1_eq, ruW, Int.toNat_natCast, h, encU_is, List.append_assoc, List.nil_append, Bool.or_assoc, Bool.not_true, Bool.not_false, Bool.or_false, Bool.false_or, Bool.true_or, Bool.or_true]
  · have hm' : 65536 < (l.length : Int) := by omega
    rw [decide_eq_false hm] at h ⊢
    simp only [Bool.not_false, Bool.or_true, Bool.true_or] at h
    simp (contextual := true) (dsimp := false) (disch := first | omega | (simp only [List.length_append, List.length_cons, List.length_nil, Int.toNat_natCast]; omega)) only [↓kDown, kUp, ↓goDown, goUp, List.length_cons, List.length_nil, List.map_cons, List.map_nil, List.take_succ_cons, List.take_zero, List.drop_succ_cons, List.drop_zero, List.drop_nil, List.take_nil, List.cons_append, List.nil_append, List.append_nil, List.set_cons_zero, List.set_cons_succ, List.all_cons, List.all_nil, ↓reduceIte, reduceCtorEq, ge_iff_le, gt_iff_lt, eq_self_iff_true, beq_self_eq_true, beq_iff_eq, bne_iff_ne, ne_eq, ite_not, Int.reduceEq, Option.getD_some, Option.getD_none, ite_self, Nat.reduceAdd, Nat.reduceSub, Nat.reduceMul, Nat.reduceLeDiff, Nat.reduceEqDiff, Nat.reduceBEq, Nat.reduceBNe, Int.reduceLT, Int.reduceLE, Int.reduceAdd, Int.reduceSub, Int.reduceMul, Int.reduceNeg, Int.reduceNe, Int.reduceBEq, Int.reduceBNe, Int.reduceToNat, strip_Z, hln, eq_true hm', p_ratchetref09_writing_clauses_1_eq, isCell_B, cells_B, low_B, ruW, Int.toNat_natCast, h, encU_is, List.append_assoc, List.nil_append, Bool.or_assoc, Bool.not_true, Bool.not_false, Bool.or_false, Bool.false_or, Bool.true_or, Bool.or_true]
end Go.Proofs.Ythidcpkcfoldmaa.Pi.Q
