/- The readers of numbers: what they come to. -/
import Derived.Test.YtofbbijagbpicaaPiC
import Derived.Test.YtofbbijagbpicaaPiQ
namespace Go.Proofs.Ytofbbijagbpicaa.Pi.Q
open Go Go.Proofs.Ytofbbijagbpicaa.Pi
set_option linter.unusedVariables false
set_option linter.unusedSimpArgs false
set_option maxRecDepth 100000
attribute [local congr] ite_congr
def retU : Rs Nat → PV
  | .ok n p => .tup [.int .u64 n, .int .i64 p, .int .i64 0]
  | .err p e => .tup [.int .u64 0, .int .i64 p, .int .i64 e]
theorem dig_lt {B s x : Nat} (hB : B ≤ 64) (hi : s < B) (hx : x < 2 ^ (B - s)) : x * 2 ^ s < 2 ^ 64 := by
  have h1 : (x + 1) * 2 ^ s ≤ 2 ^ (B - s) * 2 ^ s := Nat.mul_le_mul_right _ hx
  have h2 : 2 ^ (B - s) * 2 ^ s = 2 ^ B := by rw [← Nat.pow_add, Nat.sub_add_cancel (by omega)]
  have h3 : 2 ^ B ≤ 2 ^ 64 := Nat.pow_le_pow_right (by omega) hB
  have h4 := Nat.pow_pos (n := s) (show 0 < 2 by omega)
  rw [Nat.add_mul] at h1
  omega
theorem uns_round {H : Heap} {b : List UInt8} {z : Bool} {id a e B s n p : Nat} {x y w : PV} (hH : hget H id = some (.cells [BS z b, .int .i64 a, .int .i64 e]))
    (he : e ≤ b.length) (hb : b.length < 2 ^ 62) (hB : B ≤ 64) (hi : s < B) (hn : n < 2 ^ s) :
    run (p_leb_window_unsigned_1110 (.int .i64 B) (.ptr id 0) x y w (.int .u64 n) (.int .i64 s) (.int .i64 p)) H =
      if p < e then
        if B < s + 7 ∧ (b.getD p 0).toNat / 2 ^ (B - s) ≠ 0 then some (.ok (retU (.err p 4)) H)
        else if (b.getD p 0).toNat < 128 then some (.ok (retU (.ok (n + (b.getD p 0).toNat * 2 ^ s) (p + 1))) H)
        else run (p_leb_window_unsigned_1110 (.int .i64 B) (.ptr id 0) x y w (.int .u64 (n + (b.getD p 0).toNat % 128 * 2 ^ s : Nat)) (.int .i64 (s + 7 : Nat)) (.int .i64 (p + 1 : Nat))) H
      else some (.ok (retU (.err e 3)) H) := by
  have hid := get_lt hH
  have hset := set_self hH
  rw [p_leb_window_unsigned_1110_eq]
  by_cases hpe : p < e
  · have hpb : p < b.length := by omega
    have hg := byt_get hpb
    have hgd : b.getD p 0 = b[p] := by simp [hpb]
    rw [hgd]
    generalize b[p] = c at hg hgd ⊢
    have hc := byt_lt c
    generalize hcn : c.toNat = cn at hc
    have s1 : (B : Int) - (s : Int) = ((B - s : Nat) : Int) := by omega
    simp (contextual := true) (dsimp := false) (disch := omega) only [↓goDown, goUp, List.length_cons, List.length_nil, List.map_cons, List.map_nil, List.take_succ_cons, List.take_zero, List.drop_succ_cons, List.drop_zero, List.drop_nil, List.take_nil, List.cons_append, List.nil_append, List.append_nil, List.set_cons_zero, List.set_cons_succ, List.all_cons, List.all_nil, ↓reduceIte, reduceCtorEq, ge_iff_le, gt_iff_lt, eq_self_iff_true, beq_self_eq_true, beq_iff_eq, bne_iff_ne, ne_eq, ite_not, Int.reduceEq, Option.getD_some, Option.getD_none, ite_self, Nat.reduceAdd, Nat.reduceSub, Nat.reduceMul, Nat.reduceLeDiff, Nat.reduceEqDiff, Nat.reduceBEq, Nat.reduceBNe, Int.reduceLT, Int.reduceLE, Int.reduceAdd, Int.reduceSub, Int.reduceMul, Int.reduceNeg, Int.reduceNe, Int.reduceBEq, Int.reduceBNe, Int.reduceToNat, hH, hg, byt, hcn, hset, s1, run_and, and127, run_shl, run_shr, run_or, Int.toNat_natCast]
    have c0 : ¬ (e : Int) ≤ p := by omega
    rw [if_neg c0, if_pos hpe]
    have key : cn % 128 < 2 ^ (B - s) → IntKind.u64.wrap ((BitVec.ofInt IntKind.u64.bits (n : Int) ||| BitVec.ofInt IntKind.u64.bits (IntKind.u64.wrap (((cn % 128 : Nat) : Int) * 2 ^ shiftN .u64 (s : Int)))).toNat : Int) = ((n + cn % 128 * 2 ^ s : Nat) : Int) :=
      fun h => (join_u64 (by omega) hn (dig_lt hB hi h)).1
    have tail : cn % 128 < 2 ^ (B - s) → ∀ r, (if (cn : Int) < 128 then some (Out.ok (PV.tup [PV.int IntKind.u64 (IntKind.u64.wrap ((BitVec.ofInt IntKind.u64.bits (n : Int) ||| BitVec.ofInt IntKind.u64.bits (IntKind.u64.wrap (((cn % 128 : Nat) : Int) * 2 ^ shiftN .u64 (s : Int)))).toNat : Int)), PV.int IntKind.i64 (p + 1), PV.int IntKind.i64 0]) H) else r) =
        if cn < 128 then some (Out.ok (retU (Rs.ok (n + cn * 2 ^ s) (p + 1))) H) else r := by
      intro h r
      rw [key h]
      by_cases h1 : cn < 128
      · have c1 : (cn : Int) < 128 := by omega
        rw [if_pos h1, if_pos c1, Nat.mod_eq_of_lt h1]; rfl
      · have c1 : ¬ (cn : Int) < 128 := by omega
        rw [if_neg h1, if_neg c1]
    by_cases h7 : B - s < 7
    · have c1 : ((B - s : Nat) : Int) < 7 := by omega
      have c0 : B < s + 7 := by omega
      rw [if_pos c1, shr_u8 cn (s := B - s) (by omega)]
      by_cases hd : cn / 2 ^ (B - s) = 0
      · have hlt : cn < 2 ^ (B - s) := by
          rcases Nat.div_eq_zero_iff.mp hd with h | h
          · have := Nat.pow_pos (n := B - s) (show 0 < 2 by omega); omega
          · exact h
        have hlt2 : cn % 128 < 2 ^ (B - s) := Nat.lt_of_le_of_lt (Nat.mod_le _ _) hlt
        have c2 : ((cn / 2 ^ (B - s) : Nat) : Int) = 0 := by omega
        have c3 : ¬ (B < s + 7 ∧ ¬ cn / 2 ^ (B - s) = 0) := fun h => h.2 hd
        rw [if_pos c2, if_neg c3, tail hlt2, key hlt2]
        rfl
      · have c2 : ¬ ((cn / 2 ^ (B - s) : Nat) : Int) = 0 := by omega
        have c3 : B < s + 7 ∧ ¬ cn / 2 ^ (B - s) = 0 := ⟨c0, hd⟩
        rw [if_neg c2, if_pos c3]; rfl
    · have hlt2 : cn % 128 < 2 ^ (B - s) := by
        have : 2 ^ 7 ≤ 2 ^ (B - s) := Nat.pow_le_pow_right (by omega) (by omega)
        omega
      have c1 : ¬ ((B - s : Nat) : Int) < 7 := by omega
      have c3 : ¬ (B < s + 7 ∧ ¬ cn / 2 ^ (B - s) = 0) := by omega
      rw [if_neg c1, if_neg c3, tail hlt2, key hlt2]
      rfl
  · have c0 : (e : Int) ≤ p := by omega
    simp (contextual := true) (dsimp := false) (disch := omega) only [↓goDown, goUp, List.length_cons, List.length_nil, List.map_cons, List.map_nil, List.take_succ_cons, List.take_zero, List.drop_succ_cons, List.drop_zero, List.drop_nil, List.take_nil, List.cons_append, List.nil_append, List.append_nil, List.set_cons_zero, List.set_cons_succ, List.all_cons, List.all_nil, ↓reduceIte, reduceCtorEq, ge_iff_le, gt_iff_lt, eq_self_iff_true, beq_self_eq_true, beq_iff_eq, bne_iff_ne, ne_eq, ite_not, Int.reduceEq, Option.getD_some, Option.getD_none, ite_self, Nat.reduceAdd, Nat.reduceSub, Nat.reduceMul, Nat.reduceLeDiff, Nat.reduceEqDiff, Nat.reduceBEq, Nat.reduceBNe, Int.reduceLT, Int.reduceLE, Int.reduceAdd, Int.reduceSub, Int.reduceMul, Int.reduceNeg, Int.reduceNe, Int.reduceBEq, Int.reduceBNe, Int.reduceToNat, hH, hset, c0]
    rw [if_neg hpe]
    rfl
theorem uns_loop {H : Heap} {b : List UInt8} {z : Bool} {id a e B : Nat} {x y w : PV} (hH : hget H id = some (.cells [BS z b, .int .i64 a, .int .i64 e]))
    (he : e ≤ b.length) (hb : b.length < 2 ^ 62) (hB : B ≤ 64) (hB7 : B % 7 ≠ 0) : ∀ (f i n p : Nat), 7 * i < B → B ≤ 7 * (i + f) → n < 2 ^ (7 * i) →
    run (p_leb_window_unsigned_1110 (.int .i64 B) (.ptr id 0) x y w (.int .u64 n) (.int .i64 (7 * i : Nat)) (.int .i64 p)) H = some (.ok (retU (lebU b B e f i n p)) H)
  | 0, i, n, p, hi, hf, hn => by omega
  | f + 1, i, n, p, hi, hf, hn => by
    rw [uns_round hH he hb hB hi hn]
    unfold lebU
    by_cases h1 : p < e
    · simp only [if_pos h1]
      by_cases h2 : B < 7 * i + 7 ∧ (b.getD p 0).toNat / 2 ^ (B - 7 * i) ≠ 0
      · simp only [if_pos h2]
      · simp only [if_neg h2]
        by_cases h3 : (b.getD p 0).toNat < 128
        · simp only [if_pos h3]
        · simp only [if_neg h3]
          have h7 : ¬ B < 7 * i + 7 := by
            intro h
            refine h2 ⟨h, fun h0 => ?_⟩
            rcases Nat.div_eq_zero_iff.mp h0 with h | h'
            · have := Nat.pow_pos (n := B - 7 * i) (show 0 < 2 by omega); omega
            · have : 2 ^ (B - 7 * i) ≤ 2 ^ 6 := Nat.pow_le_pow_right (by omega) (by omega)
              omega
          by_cases h8 : 7 * (i + 1) < B
          · refine uns_loop hH he hb hB hB7 f (i + 1) _ (p + 1) h8 (by omega) ?_
            have h4 : 2 ^ (7 * (i + 1)) = 128 * 2 ^ (7 * i) := by rw [Nat.mul_add, Nat.pow_add, Nat.mul_comm]
            have h5 : (b.getD p 0).toNat % 128 * 2 ^ (7 * i) ≤ 127 * 2 ^ (7 * i) := Nat.mul_le_mul_right _ (by omega)
            omega
          · omega
    · simp only [if_neg h1]
/-- An unsigned number at a place, ahead of e. -/
def rdU (b : List UInt8) (B e p : Nat) : Rs Nat := lebU b B e 10 0 0 p
theorem leb_opened_is {H : Heap} {b : List UInt8} {z : Bool} {p e : Int} :
    run (C k_leb_opened [BS z b, .int .i64 p, .int .i64 e]) H = if p < 0 ∨ b.length < e ∨ e < p then some (.ok (.tup [.agg [.slice false true 0 [], .int .i64 0, .int .i64 0], .int .i64 1]) H)
      else some (.ok (.tup [.agg [BS z b, .int .i64 p, .int .i64 e], .int .i64 0]) H) := by
  rw [leb_opened_eq]
  simp (contextual := true) (dsimp := false) (disch := omega) only [↓goDown, goUp, List.length_cons, List.length_nil, List.map_cons, List.map_nil, List.take_succ_cons, List.take_zero, List.drop_succ_cons, List.drop_zero, List.drop_nil, List.take_nil, List.cons_append, List.nil_append, List.append_nil, List.set_cons_zero, List.set_cons_succ, List.all_cons, List.all_nil, ↓reduceIte, reduceCtorEq, ge_iff_le, gt_iff_lt, eq_self_iff_true, beq_self_eq_true, beq_iff_eq, bne_iff_ne, ne_eq, ite_not, Int.reduceEq, Option.getD_some, Option.getD_none, ite_self, Nat.reduceAdd, Nat.reduceSub, Nat.reduceMul, Nat.reduceLeDiff, Nat.reduceEqDiff, Nat.reduceBEq, Nat.reduceBNe, Int.reduceLT, Int.reduceLE, Int.reduceAdd, Int.reduceSub, Int.reduceMul, Int.reduceNeg, Int.reduceNe, Int.reduceBEq, Int.reduceBNe, Int.reduceToNat, List.length_map]
  by_cases h1 : p < 0
  · simp [h1]
  · by_cases h2 : (b.length : Int) < e
    · simp [h1, h2]
    · by_cases h3 : e < p
      · simp [h1, h2, h3]
      · simp [h1, h2, h3]
theorem leb_unsigned_is {H : Heap} {b : List UInt8} {z : Bool} {p e B : Nat} (he : e ≤ b.length) (hb : b.length < 2 ^ 62) (hB : B = 32 ∨ B = 64) :
    run (C k_leb_window_unsigned [.agg [BS z b, .int .i64 p, .int .i64 e], .int .i64 B]) H = some (.ok (retU (rdU b B e p)) H) := by
  rw [leb_window_unsigned_eq]
  have h : ∀ (x y w : PV), run (p_leb_window_unsigned_1110 (.int .i64 B) (.ptr H.length 0) x y w (.int .u64 0) (.int .i64 0) (.int .i64 p)) (hadd H [.cells [BS z b, .int .i64 p, .int .i64 e]]) = some (.ok (retU (rdU b B e p)) (hadd H [.cells [BS z b, .int .i64 p, .int .i64 e]])) :=
    fun x y w => uns_loop (by rw [get_loc0]; rfl) he hb (by omega) (by omega) 10 0 0 p (by omega) (by omega) (by decide)
  have hl : ∀ n, (retU (rdU b B e p)).low n = true := by intro n; unfold retU; split <;> simp [lowL_cons, lowL_nil, low_tup, low_int]
  simp (contextual := true) (dsimp := false) (disch := omega) only [↓goDown, goUp, List.length_cons, List.length_nil, List.map_cons, List.map_nil, List.take_succ_cons, List.take_zero, List.drop_succ_cons, List.drop_zero, List.drop_nil, List.take_nil, List.cons_append, List.nil_append, List.append_nil, List.set_cons_zero, List.set_cons_succ, List.all_cons, List.all_nil, ↓reduceIte, reduceCtorEq, ge_iff_le, gt_iff_lt, eq_self_iff_true, beq_self_eq_true, beq_iff_eq, bne_iff_ne, ne_eq, ite_not, Int.reduceEq, Option.getD_some, Option.getD_none, ite_self, Nat.reduceAdd, Nat.reduceSub, Nat.reduceMul, Nat.reduceLeDiff, Nat.reduceEqDiff, Nat.reduceBEq, Nat.reduceBNe, Int.reduceLT, Int.reduceLE, Int.reduceAdd, Int.reduceSub, Int.reduceMul, Int.reduceNeg, Int.reduceNe, Int.reduceBEq, Int.reduceBNe, Int.reduceToNat, h, hl]
end Go.Proofs.Ytofbbijagbpicaa.Pi.Q
/- The readers of signed numbers: what they come to. -/
namespace Go.Proofs.Ytofbbijagbpicaa.Pi.Q
open Go Go.Proofs.Ytofbbijagbpicaa.Pi
set_option linter.unusedVariables false
set_option linter.unusedSimpArgs false
set_option maxRecDepth 100000
attribute [local congr] ite_congr
def retS : Rs Int → PV
  | .ok n p => .tup [.int .i64 n, .int .i64 p, .int .i64 0]
  | .err p e => .tup [.int .i64 0, .int .i64 p, .int .i64 e]
theorem sgn_join {H : Heap} {b : List UInt8} {id B s n p c : Nat} {x y w : PV} (hs : s ≤ 63) (hn : n < 2 ^ s) (hp : p < 2 ^ 62) (hc : c < 256) (hB : s < B):
    run (p_leb_window_signed_1110000111 (.int .i64 B) (.ptr id 0) x y w (.int .i64 (IntKind.i64.wrap n)) (.int .i64 s) (.int .i64 p) (.int .u8 c)) H =
      if c < 128 then some (.ok (retS (.ok (IntKind.i64.wrap (n + lastS c s)) (p + 1))) H)
      else run (p_leb_window_signed_1110 (.int .i64 B) (.ptr id 0) x y w (.int .i64 (IntKind.i64.wrap (n + c % 128 * 2 ^ s : Nat))) (.int .i64 (s + 7 : Nat)) (.int .i64 (p + 1 : Nat))) H := by
  rw [p_leb_window_signed_1110000111_eq]
  have e1 : shiftN .i64 (s : Int) = s := shiftN_i64 (by omega)
  have key : IntKind.i64.wrap ((BitVec.ofInt IntKind.i64.bits (IntKind.i64.wrap n) ||| BitVec.ofInt IntKind.i64.bits (IntKind.i64.wrap (((c % 128 : Nat) : Int) * 2 ^ shiftN .i64 (s : Int)))).toNat : Int) = IntKind.i64.wrap ((n + c % 128 * 2 ^ s : Nat) : Int) := by
    rw [e1]
    have h := or_digit (N := (n : Int)) (x := ((c % 128 : Nat) : Int)) hs (by omega) (by exact_mod_cast hn)
    unfold or64 at h
    refine h.trans ?_
    push_cast
    rfl
  have w1 : IntKind.i64.wrap ((c % 128 : Nat) : Int) = ((c % 128 : Nat) : Int) := w_i64 (by omega)
  simp (contextual := true) (dsimp := false) (disch := omega) only [↓goDown, goUp, List.length_cons, List.length_nil, List.map_cons, List.map_nil, List.take_succ_cons, List.take_zero, List.drop_succ_cons, List.drop_zero, List.drop_nil, List.take_nil, List.cons_append, List.nil_append, List.append_nil, List.set_cons_zero, List.set_cons_succ, List.all_cons, List.all_nil, ↓reduceIte, reduceCtorEq, ge_iff_le, gt_iff_lt, eq_self_iff_true, beq_self_eq_true, beq_iff_eq, bne_iff_ne, ne_eq, ite_not, Int.reduceEq, Option.getD_some, Option.getD_none, ite_self, Nat.reduceAdd, Nat.reduceSub, Nat.reduceMul, Nat.reduceLeDiff, Nat.reduceEqDiff, Nat.reduceBEq, Nat.reduceBNe, Int.reduceLT, Int.reduceLE, Int.reduceAdd, Int.reduceSub, Int.reduceMul, Int.reduceNeg, Int.reduceNe, Int.reduceBEq, Int.reduceBNe, Int.reduceToNat, run_and, and127, run_shl, run_shr, run_or, p_leb_window_signed_111000011111101_eq, key, w1]
  have e2 : ((s : Int) + 7) = ((s + 7 : Nat) : Int) := rfl
  have e3 : ((p : Int) + 1) = ((p + 1 : Nat) : Int) := rfl
  by_cases hlt : c < 128
  · have c1 : (c : Int) < 128 := by omega
    have hm : c % 128 = c := Nat.mod_eq_of_lt hlt
    rw [if_pos c1, if_pos hlt, and64 c hlt, hm]
    by_cases h64 : c < 64
    · rw [if_pos h64, if_pos rfl]
      unfold lastS
      rw [if_pos h64]
      push_cast
      rfl
    · rw [if_neg h64, if_neg (by decide)]
      unfold lastS
      rw [if_neg h64]
      have ep : (2 : Int) ^ (s + 7) = 128 * 2 ^ s := by rw [Int.pow_add, Int.mul_comm]; rfl
      by_cases h7 : s + 7 < 64
      · have c2 : (s : Int) + 7 < 64 := by omega
        rw [if_pos c2, e2, shiftN_i64 (by omega)]
        have h1 : n + c * 2 ^ s < 2 ^ (s + 7) := by
          have : (c + 1) * 2 ^ s ≤ 128 * 2 ^ s := Nat.mul_le_mul_right _ (by omega)
          have e : 2 ^ (s + 7) = 128 * 2 ^ s := by rw [Nat.pow_add, Nat.mul_comm]
          rw [Nat.add_mul] at this
          omega
        have h := or_digit (N := ((n + c * 2 ^ s : Nat) : Int)) (x := -1) (s := s + 7) (by omega) (by omega) (by exact_mod_cast h1)
        unfold or64 at h
        have h2 : IntKind.i64.wrap (((n + c * 2 ^ s : Nat) : Int) + -1 * 2 ^ (s + 7)) = IntKind.i64.wrap ((n : Int) + ((c : Int) - 128) * 2 ^ s) := by
          congr 1
          rw [ep, Int.sub_mul]
          push_cast
          omega
        exact congrArg (fun v => some (Out.ok (PV.tup [PV.int IntKind.i64 v, PV.int IntKind.i64 ((p : Int) + 1), PV.int IntKind.i64 0]) H)) (h.trans h2)
      · have c2 : ¬ (s : Int) + 7 < 64 := by omega
        rw [if_neg c2]
        have h2 : IntKind.i64.wrap ((n + c * 2 ^ s : Nat) : Int) = IntKind.i64.wrap ((n : Int) + ((c : Int) - 128) * 2 ^ s) := by
          apply wi_congr
          have e9 : (128 : Int) * 2 ^ s = 2 ^ (s + 7 - 64) * 18446744073709551616 := by
            rw [← ep, pow64 (s := 64) (by omega), Nat.sub_self, Int.pow_zero, Int.one_mul, ← Int.pow_add]
            congr 1
            omega
          have e8 : ((n + c * 2 ^ s : Nat) : Int) = ((n : Int) + ((c : Int) - 128) * 2 ^ s) + 2 ^ (s + 7 - 64) * 18446744073709551616 := by
            rw [← e9, Int.sub_mul]
            push_cast
            omega
          rw [e8, Int.add_mul_emod_self_right]
        exact congrArg (fun v => some (Out.ok (PV.tup [PV.int IntKind.i64 v, PV.int IntKind.i64 ((p : Int) + 1), PV.int IntKind.i64 0]) H)) h2
  · have c1 : ¬ (c : Int) < 128 := by omega
    rw [if_neg c1, if_neg hlt, e2, e3]
theorem sgn_round {H : Heap} {b : List UInt8} {z : Bool} {id a e B s n p : Nat} {x y w : PV} (hH : hget H id = some (.cells [BS z b, .int .i64 a, .int .i64 e]))
    (he : e ≤ b.length) (hb : b.length < 2 ^ 62) (hB : B = 32 ∨ B = 33 ∨ B = 64) (hs7 : s % 7 = 0) (hi : s < B) (hn : n < 2 ^ s) :
    run (p_leb_window_signed_1110 (.int .i64 B) (.ptr id 0) x y w (.int .i64 (IntKind.i64.wrap n)) (.int .i64 s) (.int .i64 p)) H =
      if p < e then
        if B < s + 7 ∧ ¬ okS (B - s) (b.getD p 0).toNat then some (.ok (retS (.err p 4)) H)
        else if (b.getD p 0).toNat < 128 then some (.ok (retS (.ok (IntKind.i64.wrap (n + lastS (b.getD p 0).toNat s)) (p + 1))) H)
        else run (p_leb_window_signed_1110 (.int .i64 B) (.ptr id 0) x y w (.int .i64 (IntKind.i64.wrap (n + (b.getD p 0).toNat % 128 * 2 ^ s : Nat))) (.int .i64 (s + 7 : Nat)) (.int .i64 (p + 1 : Nat))) H
      else some (.ok (retS (.err e 3)) H) := by
  have hid := get_lt hH
  have hset := set_self hH
  rw [p_leb_window_signed_1110_eq]
  by_cases hpe : p < e
  · have hpb : p < b.length := by omega
    have hg := byt_get hpb
    have hgd : b.getD p 0 = b[p] := by simp [hpb]
    rw [hgd]
    generalize b[p] = c at hg hgd ⊢
    have hc := byt_lt c
    generalize hcn : c.toNat = cn at hc
    have s1 : (B : Int) - (s : Int) = ((B - s : Nat) : Int) := by omega
    have c0 : ¬ (e : Int) ≤ p := by omega
    have hj := fun (u v w : PV) => sgn_join (H := H) (b := b) (id := id) (B := B) (s := s) (n := n) (p := p) (c := cn) (x := u) (y := v) (w := w) (by omega) hn (by omega) hc hi
    simp (contextual := true) (dsimp := false) (disch := omega) only [↓goDown, goUp, List.length_cons, List.length_nil, List.map_cons, List.map_nil, List.take_succ_cons, List.take_zero, List.drop_succ_cons, List.drop_zero, List.drop_nil, List.take_nil, List.cons_append, List.nil_append, List.append_nil, List.set_cons_zero, List.set_cons_succ, List.all_cons, List.all_nil, ↓reduceIte, reduceCtorEq, ge_iff_le, gt_iff_lt, eq_self_iff_true, beq_self_eq_true, beq_iff_eq, bne_iff_ne, ne_eq, ite_not, Int.reduceEq, Option.getD_some, Option.getD_none, ite_self, Nat.reduceAdd, Nat.reduceSub, Nat.reduceMul, Nat.reduceLeDiff, Nat.reduceEqDiff, Nat.reduceBEq, Nat.reduceBNe, Int.reduceLT, Int.reduceLE, Int.reduceAdd, Int.reduceSub, Int.reduceMul, Int.reduceNeg, Int.reduceNe, Int.reduceBEq, Int.reduceBNe, Int.reduceToNat, hH, hg, byt, hcn, hset, s1, run_and, run_shl, run_shr, run_or, Int.toNat_natCast, hj, c0]
    rw [if_pos hpe]
    by_cases h7 : B - s < 7
    · have c1 : ((B - s : Nat) : Int) < 7 := by omega
      have c3 : B < s + 7 := by omega
      rw [if_pos c1]
      by_cases h128 : cn < 128
      · have c2 : ¬ (128 : Int) ≤ cn := by omega
        have ht := top_ok (h := B - s) (by omega) h128
        rw [if_neg c2]
        by_cases h0 : (IntKind.i8.wrap (IntKind.u8.wrap ((cn : Int) * 2 ^ shiftN .u8 1))).fdiv (2 ^ shiftN .i8 ((B - s : Nat) : Int)) = 0
        · have c4 : ¬ (B < s + 7 ∧ ¬ okS (B - s) cn) := fun h => h.2 (ht.mp (.inl h0))
          rw [if_pos h0, if_neg c4, if_pos h128, if_pos h128]
        · rw [if_neg h0]
          by_cases h1 : (IntKind.i8.wrap (IntKind.u8.wrap ((cn : Int) * 2 ^ shiftN .u8 1))).fdiv (2 ^ shiftN .i8 ((B - s : Nat) : Int)) = -1
          · have c4 : ¬ (B < s + 7 ∧ ¬ okS (B - s) cn) := fun h => h.2 (ht.mp (.inr h1))
            rw [if_pos h1, if_neg c4, if_pos h128, if_pos h128]
          · have c4 : B < s + 7 ∧ ¬ okS (B - s) cn := ⟨c3, fun h => (ht.mpr h).elim h0 h1⟩
            rw [if_neg h1, if_pos c4]
            rfl
      · have c2 : (128 : Int) ≤ cn := by omega
        have c4 : B < s + 7 ∧ ¬ okS (B - s) cn := ⟨c3, fun h => h128 h.1⟩
        rw [if_pos c2, if_pos c4]
        rfl
    · have c1 : ¬ ((B - s : Nat) : Int) < 7 := by omega
      have c4 : ¬ (B < s + 7 ∧ ¬ okS (B - s) cn) := by omega
      rw [if_neg c1, if_neg c4]
  · have c0 : (e : Int) ≤ p := by omega
    simp (contextual := true) (dsimp := false) (disch := omega) only [↓goDown, goUp, List.length_cons, List.length_nil, List.map_cons, List.map_nil, List.take_succ_cons, List.take_zero, List.drop_succ_cons, List.drop_zero, List.drop_nil, List.take_nil, List.cons_append, List.nil_append, List.append_nil, List.set_cons_zero, List.set_cons_succ, List.all_cons, List.all_nil, ↓reduceIte, reduceCtorEq, ge_iff_le, gt_iff_lt, eq_self_iff_true, beq_self_eq_true, beq_iff_eq, bne_iff_ne, ne_eq, ite_not, Int.reduceEq, Option.getD_some, Option.getD_none, ite_self, Nat.reduceAdd, Nat.reduceSub, Nat.reduceMul, Nat.reduceLeDiff, Nat.reduceEqDiff, Nat.reduceBEq, Nat.reduceBNe, Int.reduceLT, Int.reduceLE, Int.reduceAdd, Int.reduceSub, Int.reduceMul, Int.reduceNeg, Int.reduceNe, Int.reduceBEq, Int.reduceBNe, Int.reduceToNat, hH, hset, c0]
    rw [if_neg hpe]
    rfl
theorem sgn_loop {H : Heap} {b : List UInt8} {z : Bool} {id a e B : Nat} {x y w : PV} (hH : hget H id = some (.cells [BS z b, .int .i64 a, .int .i64 e]))
    (he : e ≤ b.length) (hb : b.length < 2 ^ 62) (hB : B = 32 ∨ B = 33 ∨ B = 64) : ∀ (f i n p : Nat), 7 * i < B → B ≤ 7 * (i + f) → n < 2 ^ (7 * i) →
    run (p_leb_window_signed_1110 (.int .i64 B) (.ptr id 0) x y w (.int .i64 (IntKind.i64.wrap n)) (.int .i64 (7 * i : Nat)) (.int .i64 p)) H = some (.ok (retS (lebS b B e f i n p)) H)
  | 0, i, n, p, hi, hf, hn => by omega
  | f + 1, i, n, p, hi, hf, hn => by
    rw [sgn_round hH he hb hB (by omega) hi hn]
    unfold lebS
    by_cases h1 : p < e
    · simp only [if_pos h1]
      by_cases h2 : B < 7 * i + 7 ∧ ¬ okS (B - 7 * i) (b.getD p 0).toNat
      · simp only [if_pos h2]
      · simp only [if_neg h2]
        by_cases h3 : (b.getD p 0).toNat < 128
        · simp only [if_pos h3]
        · simp only [if_neg h3]
          have h7 : ¬ B < 7 * i + 7 := fun h => h2 ⟨h, fun h0 => h3 h0.1⟩
          refine sgn_loop hH he hb hB f (i + 1) _ (p + 1) (by omega) (by omega) ?_
          have h4 : 2 ^ (7 * (i + 1)) = 128 * 2 ^ (7 * i) := by rw [Nat.mul_add, Nat.pow_add, Nat.mul_comm]
          have h5 : (b.getD p 0).toNat % 128 * 2 ^ (7 * i) ≤ 127 * 2 ^ (7 * i) := Nat.mul_le_mul_right _ (by omega)
          omega
    · simp only [if_neg h1]
theorem leb_signed_is {H : Heap} {b : List UInt8} {z : Bool} {p e B : Nat} (he : e ≤ b.length) (hb : b.length < 2 ^ 62) (hB : B = 32 ∨ B = 33 ∨ B = 64) :
    run (C k_leb_window_signed [.agg [BS z b, .int .i64 p, .int .i64 e], .int .i64 B]) H = some (.ok (retS (rdS b B e p)) H) := by
  rw [leb_window_signed_eq]
  have h : ∀ (x y w : PV), run (p_leb_window_signed_1110 (.int .i64 B) (.ptr H.length 0) x y w (.int .i64 0) (.int .i64 0) (.int .i64 p)) (hadd H [.cells [BS z b, .int .i64 p, .int .i64 e]]) = some (.ok (retS (rdS b B e p)) (hadd H [.cells [BS z b, .int .i64 p, .int .i64 e]])) :=
    fun x y w => sgn_loop (by rw [get_loc0]; rfl) he hb hB 10 0 0 p (by omega) (by omega) (by decide)
  have hl : ∀ n, (retS (rdS b B e p)).low n = true := by intro n; unfold retS; split <;> simp [lowL_cons, lowL_nil, low_tup, low_int]
  simp (contextual := true) (dsimp := false) (disch := omega) only [↓goDown, goUp, List.length_cons, List.length_nil, List.map_cons, List.map_nil, List.take_succ_cons, List.take_zero, List.drop_succ_cons, List.drop_zero, List.drop_nil, List.take_nil, List.cons_append, List.nil_append, List.append_nil, List.set_cons_zero, List.set_cons_succ, List.all_cons, List.all_nil, ↓reduceIte, reduceCtorEq, ge_iff_le, gt_iff_lt, eq_self_iff_true, beq_self_eq_true, beq_iff_eq, bne_iff_ne, ne_eq, ite_not, Int.reduceEq, Option.getD_some, Option.getD_none, ite_self, Nat.reduceAdd, Nat.reduceSub, Nat.reduceMul, Nat.reduceLeDiff, Nat.reduceEqDiff, Nat.reduceBEq, Nat.reduceBNe, Int.reduceLT, Int.reduceLE, Int.reduceAdd, Int.reduceSub, Int.reduceMul, Int.reduceNeg, Int.reduceNe, Int.reduceBEq, Int.reduceBNe, Int.reduceToNat, h, hl]
end Go.Proofs.Ytofbbijagbpicaa.Pi.Q
/- The reference's reader of numbers: what it comes to. -/
namespace Go.Proofs.Ytofbbijagbpicaa.Pi.Q
open Go Go.Proofs.Ytofbbijagbpicaa.Pi
set_option linter.unusedVariables false
set_option linter.unusedSimpArgs false
set_option maxRecDepth 100000
attribute [local congr] ite_congr
def retN : Rs Int → PV
  | .ok n p => .tup [.int .u64 (IntKind.u64.wrap n), .int .i64 p, .int .i64 0]
  | .err p e => .tup [.int .u64 0, .int .i64 p, .int .i64 e]
theorem shr_i64 (c : Nat) {s : Nat} (h : s ≤ 64) : (c : Int).fdiv (2 ^ shiftN .i64 (s : Int)) = ((c / 2 ^ s : Nat) : Int) := by
  rw [shiftN_i64 h, Int.fdiv_eq_ediv_of_nonneg _ (Int.le_of_lt (Int.pow_pos (by omega)))]
  simp
theorem last_is {H : Heap} {c B i : Nat} {sg : Bool} (hc : c < 256) (hB : B ≤ 64) (hi : 7 * i < B) (hi2 : B < 7 * i + 7) :
    run (C k_ratchetref01_last [.int .u8 c, .int .i64 B, .int .i64 i, .bool sg]) H = some (.ok (.bool (if sg then decide (okS (B - 7 * i) c) else decide (c / 2 ^ (B - 7 * i) = 0))) H) := by
  rw [ratchetref01_last_eq]
  have e1 : (7 : Int) * (i : Int) = ((7 * i : Nat) : Int) := by omega
  have e2 : (B : Int) - ((7 * i : Nat) : Int) = ((B - 7 * i : Nat) : Int) := by omega
  have e3 : ((B - 7 * i : Nat) : Int) - 1 = ((B - 7 * i - 1 : Nat) : Int) := by omega
  have e4 : (8 : Int) - ((B - 7 * i : Nat) : Int) = ((8 - (B - 7 * i) : Nat) : Int) := by omega
  generalize hL : B - 7 * i = L at *
  have w1 : IntKind.i64.wrap ((7 * i : Nat) : Int) = ((7 * i : Nat) : Int) := w_i64 (by omega)
  have ep : (2 : Int) ^ (8 - L) = ((2 ^ (8 - L) : Nat) : Int) := by simp
  have p1 : 2 ^ (8 - L) ≤ 2 ^ 8 := Nat.pow_le_pow_right (by omega) (by omega)
  have hp : ∀ k : Nat, (0 : Nat) < 2 ^ k := fun k => Nat.pow_pos (by omega)
  have s1 : shiftN .i64 ((8 - L : Nat) : Int) = 8 - L := shiftN_i64 (by omega)
  have q1 : (c : Int).fdiv (2 ^ shiftN .i64 (L : Int)) = ((c / 2 ^ L : Nat) : Int) := shr_i64 c (by omega)
  have q2 : (c : Int).fdiv (2 ^ shiftN .i64 ((L - 1 : Nat) : Int)) = ((c / 2 ^ (L - 1) : Nat) : Int) := shr_i64 c (by omega)
  have w2 : IntKind.i64.wrap (1 * 2 ^ (8 - L)) = 2 ^ (8 - L) := by
    rw [Int.one_mul, ep]
    generalize (2 : Nat) ^ (8 - L) = q at p1
    exact w_i64 (by omega)
  have p2 := hp (8 - L)
  have e5 : (((2 ^ (8 - L) : Nat) : Int) - 1) = ((2 ^ (8 - L) - 1 : Nat) : Int) := by omega
  cases sg
  · simp (contextual := true) (dsimp := false) (disch := omega) only [↓goDown, goUp, List.length_cons, List.length_nil, List.map_cons, List.map_nil, List.take_succ_cons, List.take_zero, List.drop_succ_cons, List.drop_zero, List.drop_nil, List.take_nil, List.cons_append, List.nil_append, List.append_nil, List.set_cons_zero, List.set_cons_succ, List.all_cons, List.all_nil, ↓reduceIte, reduceCtorEq, ge_iff_le, gt_iff_lt, eq_self_iff_true, beq_self_eq_true, beq_iff_eq, bne_iff_ne, ne_eq, ite_not, Int.reduceEq, Option.getD_some, Option.getD_none, ite_self, Nat.reduceAdd, Nat.reduceSub, Nat.reduceMul, Nat.reduceLeDiff, Nat.reduceEqDiff, Nat.reduceBEq, Nat.reduceBNe, Int.reduceLT, Int.reduceLE, Int.reduceAdd, Int.reduceSub, Int.reduceMul, Int.reduceNeg, Int.reduceNe, Int.reduceBEq, Int.reduceBNe, Int.reduceToNat, run_and, run_shl, run_shr, run_or, un_not, e1, w1, e2, e3, e4, s1, q1, q2, w2]
    by_cases h128 : c < 128
    · have c1 : ¬ (128 : Int) ≤ c := by omega
      rw [if_neg c1]
      congr 3
      rw [Bool.eq_iff_iff]
      simp only [beq_iff_eq, decide_eq_true_eq]
      omega
    · have c1 : (128 : Int) ≤ c := by omega
      rw [if_pos c1]
      have h6 : 2 ^ L ≤ 2 ^ 6 := Nat.pow_le_pow_right (by omega) (by omega)
      have : ¬ c / 2 ^ L = 0 := by
        intro h
        rcases Nat.div_eq_zero_iff.mp h with h | h
        · have := hp L; omega
        · omega
      simp [this]
  · simp (contextual := true) (dsimp := false) (disch := omega) only [↓goDown, goUp, List.length_cons, List.length_nil, List.map_cons, List.map_nil, List.take_succ_cons, List.take_zero, List.drop_succ_cons, List.drop_zero, List.drop_nil, List.take_nil, List.cons_append, List.nil_append, List.append_nil, List.set_cons_zero, List.set_cons_succ, List.all_cons, List.all_nil, ↓reduceIte, reduceCtorEq, ge_iff_le, gt_iff_lt, eq_self_iff_true, beq_self_eq_true, beq_iff_eq, bne_iff_ne, ne_eq, ite_not, Int.reduceEq, Option.getD_some, Option.getD_none, ite_self, Nat.reduceAdd, Nat.reduceSub, Nat.reduceMul, Nat.reduceLeDiff, Nat.reduceEqDiff, Nat.reduceBEq, Nat.reduceBNe, Int.reduceLT, Int.reduceLE, Int.reduceAdd, Int.reduceSub, Int.reduceMul, Int.reduceNeg, Int.reduceNe, Int.reduceBEq, Int.reduceBNe, Int.reduceToNat, run_and, run_shl, run_shr, run_or, un_not, e1, w1, e2, e3, e4, s1, q1, q2, w2, ep, e5]
    by_cases h128 : c < 128
    · have c1 : ¬ (128 : Int) ≤ c := by omega
      rw [if_neg c1]
      have hd : decide (okS L c) = (decide (c / 2 ^ (L - 1) = 0) || decide (c / 2 ^ (L - 1) = 2 ^ (8 - L) - 1)) := by
        unfold okS
        simp [h128]
      rw [hd]
      by_cases z : c / 2 ^ (L - 1) = 0
      · have z' : ((c / 2 ^ (L - 1) : Nat) : Int) = 0 := by omega
        simp [z, z']
      · have z' : ¬ ((c / 2 ^ (L - 1) : Nat) : Int) = 0 := by omega
        rw [if_neg z']
        congr 3
        rw [Bool.eq_iff_iff]
        simp only [beq_iff_eq, Bool.or_eq_true, decide_eq_true_eq]
        omega
    · have c1 : (128 : Int) ≤ c := by omega
      rw [if_pos c1]
      have : ¬ okS L c := fun h => h128 h.1
      simp [this]
theorem num_tail {H : Heap} {v0 v1 v2 v3 v4 v10 v11 v12 v13 : PV} {n a i : Nat} (ha : a + i < 2 ^ 62) :
    run (p_ratchetref01_Number_111101001001111101 v0 (.int .i64 a) v2 v3 v4 v10 v11 v12 v13 (.int .u64 n) (.int .i64 i)) H = some (.ok (.tup [.int .u64 n, .int .i64 (a + i + 1), .int .i64 0]) H) := by
  rw [p_ratchetref01_Number_111101001001111101_eq]
  simp (contextual := true) (dsimp := false) (disch := omega) only [↓goDown, goUp, List.length_cons, List.length_nil, List.map_cons, List.map_nil, List.take_succ_cons, List.take_zero, List.drop_succ_cons, List.drop_zero, List.drop_nil, List.take_nil, List.cons_append, List.nil_append, List.append_nil, List.set_cons_zero, List.set_cons_succ, List.all_cons, List.all_nil, ↓reduceIte, reduceCtorEq, ge_iff_le, gt_iff_lt, eq_self_iff_true, beq_self_eq_true, beq_iff_eq, bne_iff_ne, ne_eq, ite_not, Int.reduceEq, Option.getD_some, Option.getD_none, ite_self, Nat.reduceAdd, Nat.reduceSub, Nat.reduceMul, Nat.reduceLeDiff, Nat.reduceEqDiff, Nat.reduceBEq, Nat.reduceBNe, Int.reduceLT, Int.reduceLE, Int.reduceAdd, Int.reduceSub, Int.reduceMul, Int.reduceNeg, Int.reduceNe, Int.reduceBEq, Int.reduceBNe, Int.reduceToNat]
theorem wu (x : Int) : IntKind.u64.wrap x = x % 18446744073709551616 := by simp only [IntKind.wrap, IntKind.signed, IntKind.bits]; simp
theorem wu_wi (x : Int) : IntKind.u64.wrap (IntKind.i64.wrap x) = IntKind.u64.wrap x := by rw [wu, wu, wi_emod]
theorem wu_add (n y : Int) : IntKind.u64.wrap (n + IntKind.u64.wrap y) = IntKind.u64.wrap (n + y) := by rw [wu, wu, wu]; omega
theorem wu_sub (n y : Int) : IntKind.u64.wrap (IntKind.u64.wrap n - IntKind.u64.wrap y) = IntKind.u64.wrap (n - y) := by rw [wu, wu, wu, wu]; omega
theorem tmod128 (c : Nat) : ((c : Nat) : Int).tmod 128 = ((c % 128 : Nat) : Int) := by rw [Int.tmod_eq_emod_of_nonneg (by omega)]; omega
theorem fits {n x s : Nat} (hs : s ≤ 63) (hn : n < 2 ^ s) (hx : x * 2 ^ s < 2 ^ 64) : n + x * 2 ^ s < 2 ^ 64 := (join_u64 hs hn hx).2
theorem valS1 {n c s : Nat} (hc : ¬ c < 64) : IntKind.u64.wrap ((n : Int) + ((c * 2 ^ s : Nat) : Int) - 1 * 2 ^ (s + 7)) = IntKind.u64.wrap (n + lastS c s) := by
  congr 1
  unfold lastS
  rw [if_neg hc, Int.sub_mul]
  have ep : (2 : Int) ^ (s + 7) = 128 * 2 ^ s := by rw [Int.pow_add, Int.mul_comm]; rfl
  rw [ep]
  push_cast
  omega
theorem valS2 {n c s : Nat} (hc : ¬ c < 64) (hs : 57 ≤ s) : IntKind.u64.wrap ((n : Int) + ((c * 2 ^ s : Nat) : Int)) = IntKind.u64.wrap (n + lastS c s) := by
  unfold lastS
  rw [if_neg hc, Int.sub_mul]
  have ep : (2 : Int) ^ (s + 7) = 128 * 2 ^ s := by rw [Int.pow_add, Int.mul_comm]; rfl
  have e9 : (128 : Int) * 2 ^ s = 2 ^ (s + 7 - 64) * 18446744073709551616 := by
    rw [← ep, pow64 (s := 64) (by omega), Nat.sub_self, Int.pow_zero, Int.one_mul, ← Int.pow_add]
    congr 1
    omega
  have e8 : ((n : Int) + ((c * 2 ^ s : Nat) : Int)) = ((n : Int) + ((c : Int) * 2 ^ s - 128 * 2 ^ s)) + 2 ^ (s + 7 - 64) * 18446744073709551616 := by
    rw [← e9]
    push_cast
    omega
  rw [e8, wu, wu, Int.add_mul_emod_self_right]
theorem valS3 {n c s : Nat} (hc : c < 64) : ((n : Int) + ((c * 2 ^ s : Nat) : Int)) = (n + lastS c s) := by
  unfold lastS
  rw [if_pos hc]
  push_cast
  rfl
/-- Where the reading goes on: the value's part so far, unless this was the last digit. -/
theorem num_round {H : Heap} {b : List UInt8} {z sg : Bool} {v10 v11 v12 : PV} {a e B i n : Nat} (he : e ≤ b.length) (hb : b.length < 2 ^ 61) (hB : B = 32 ∨ B = 33 ∨ B = 64) (hi : 7 * i < B) (hn : n < 2 ^ (7 * i)) (ha : a ≤ e) :
    run (p_ratchetref01_Number_1111010 (BS z b) (.int .i64 a) (.int .i64 e) (.int .i64 B) (.bool sg) v10 v11 v12 (.int .i64 ((B + 6) / 7 : Nat)) (.int .u64 n) (.int .i64 i)) H =
      if a + i < e then
        if B < 7 * i + 7 ∧ ¬ (if sg then okS (B - 7 * i) (b.getD (a + i) 0).toNat else (b.getD (a + i) 0).toNat / 2 ^ (B - 7 * i) = 0) then some (.ok (.tup [.int .u64 0, .int .i64 (a + i : Nat), .int .i64 4]) H)
        else if (b.getD (a + i) 0).toNat < 128 then
          some (.ok (.tup [.int .u64 (IntKind.u64.wrap (n + if sg then lastS (b.getD (a + i) 0).toNat (7 * i) else (((b.getD (a + i) 0).toNat * 2 ^ (7 * i) : Nat) : Int))), .int .i64 (a + i + 1 : Nat), .int .i64 0]) H)
        else run (p_ratchetref01_Number_1111010 (BS z b) (.int .i64 a) (.int .i64 e) (.int .i64 B) (.bool sg) v10 v11 v12 (.int .i64 ((B + 6) / 7 : Nat)) (.int .u64 (n + (b.getD (a + i) 0).toNat % 128 * 2 ^ (7 * i) : Nat)) (.int .i64 (i + 1 : Nat))) H
      else some (.ok (.tup [.int .u64 0, .int .i64 e, .int .i64 3]) H) := by
  rw [p_ratchetref01_Number_1111010_eq]
  have c1 : (i : Int) < ((B + 6) / 7 : Nat) := by omega
  have e1 : (a : Int) + (i : Int) = ((a + i : Nat) : Int) := rfl
  by_cases hpe : a + i < e
  · have hpb : a + i < b.length := by omega
    have hg := byt_get hpb
    have hgd : b.getD (a + i) 0 = b[a + i] := by simp [hpb]
    rw [hgd, if_pos hpe]
    generalize b[a + i] = c at hg hgd ⊢
    have hc := byt_lt c
    generalize hcn : c.toNat = cn at hc
    have c0 : ¬ (e : Int) ≤ ((a + i : Nat) : Int) := by omega
    have e2 : (7 : Int) * (i : Int) = ((7 * i : Nat) : Int) := by omega
    have e3 : ((7 * i : Nat) : Int) + 7 = ((7 * i + 7 : Nat) : Int) := by omega
    have w1 : IntKind.u64.wrap ((7 * i : Nat) : Int) = ((7 * i : Nat) : Int) := w_u64 (by omega)
    have w2 : IntKind.i64.wrap ((7 * i : Nat) : Int) = ((7 * i : Nat) : Int) := w_i64 (by omega)
    have w3 : IntKind.u64.wrap ((cn % 128 : Nat) : Int) = ((cn % 128 : Nat) : Int) := w_u64 (by omega)
    have s1 : shiftN .u64 ((7 * i : Nat) : Int) = 7 * i := shiftN_u64 (by omega)
    have e4 : (((cn % 128 : Nat) : Int) * 2 ^ (7 * i)) = ((cn % 128 * 2 ^ (7 * i) : Nat) : Int) := by simp
    have e5 : (i : Int) + 1 = ((i + 1 : Nat) : Int) := rfl
    have fin : ∀ (w : Int), w = IntKind.u64.wrap w → run (p_ratchetref01_Number_111101001001111101 (BS z b) (.int .i64 a) (.int .i64 e) (.int .i64 B) (.bool sg) v10 v11 v12 (.int .i64 ((B + 6) / 7 : Nat)) (.int .u64 w) (.int .i64 i)) H = some (.ok (.tup [.int .u64 w, .int .i64 (a + i + 1 : Nat), .int .i64 0]) H) := by
      intro w hw
      rw [p_ratchetref01_Number_111101001001111101_eq]
      simp (contextual := true) (dsimp := false) (disch := omega) only [↓goDown, goUp, List.length_cons, List.length_nil, List.map_cons, List.map_nil, List.take_succ_cons, List.take_zero, List.drop_succ_cons, List.drop_zero, List.drop_nil, List.take_nil, List.cons_append, List.nil_append, List.append_nil, List.set_cons_zero, List.set_cons_succ, List.all_cons, List.all_nil, ↓reduceIte, reduceCtorEq, ge_iff_le, gt_iff_lt, eq_self_iff_true, beq_self_eq_true, beq_iff_eq, bne_iff_ne, ne_eq, ite_not, Int.reduceEq, Option.getD_some, Option.getD_none, ite_self, Nat.reduceAdd, Nat.reduceSub, Nat.reduceMul, Nat.reduceLeDiff, Nat.reduceEqDiff, Nat.reduceBEq, Nat.reduceBNe, Int.reduceLT, Int.reduceLE, Int.reduceAdd, Int.reduceSub, Int.reduceMul, Int.reduceNeg, Int.reduceNe, Int.reduceBEq, Int.reduceBNe, Int.reduceToNat, e1]
      rfl
    have idem : ∀ x : Int, IntKind.u64.wrap x = IntKind.u64.wrap (IntKind.u64.wrap x) := by intro x; rw [wu, wu]; omega
    have wrap0 : ∀ (m : Nat), IntKind.u64.wrap (m : Int) = IntKind.u64.wrap m := fun _ => rfl
    -- the digits, joined
    have dig : B < 7 * i + 7 ∧ ¬ (if sg then okS (B - 7 * i) cn else cn / 2 ^ (B - 7 * i) = 0) ∨ ((cn < 128 ∨ 7 * i + 7 ≤ B)) := by
      by_cases h7 : B < 7 * i + 7
      · by_cases h128 : cn < 128
        · exact .inr (.inl h128)
        · left
          refine ⟨h7, ?_⟩
          cases sg with
          | true => simp only [if_true]; exact fun h => h128 h.1
          | false =>
            simp only [Bool.false_eq_true, if_false]
            intro h
            have h6 : 2 ^ (B - 7 * i) ≤ 2 ^ 6 := Nat.pow_le_pow_right (by omega) (by omega)
            have h0 : 0 < 2 ^ (B - 7 * i) := Nat.pow_pos (by omega)
            rcases Nat.div_eq_zero_iff.mp h with h | h <;> omega
      · exact .inr (.inr (by omega))
    have hm : cn < 128 → cn % 128 = cn := fun h => Nat.mod_eq_of_lt h
    have close : cn < 128 → (if sg = true then
        if (64 : Int) ≤ cn then
          if ((7 * i + 7 : Nat) : Int) < 64 then
            run (p_ratchetref01_Number_111101001001111101 (BS z b) (.int .i64 a) (.int .i64 e) (.int .i64 B) (.bool true) v10 v11 v12 (.int .i64 ((B + 6) / 7 : Nat)) (.int .u64 (IntKind.u64.wrap (IntKind.u64.wrap ((n : Int) + IntKind.u64.wrap ((cn % 128 * 2 ^ (7 * i) : Nat) : Int)) - IntKind.u64.wrap (1 * 2 ^ shiftN .u64 ((7 * i + 7 : Nat) : Int))))) (.int .i64 i)) H
          else run (p_ratchetref01_Number_111101001001111101 (BS z b) (.int .i64 a) (.int .i64 e) (.int .i64 B) (.bool true) v10 v11 v12 (.int .i64 ((B + 6) / 7 : Nat)) (.int .u64 (IntKind.u64.wrap ((n : Int) + IntKind.u64.wrap ((cn % 128 * 2 ^ (7 * i) : Nat) : Int)))) (.int .i64 i)) H
        else run (p_ratchetref01_Number_111101001001111101 (BS z b) (.int .i64 a) (.int .i64 e) (.int .i64 B) (.bool true) v10 v11 v12 (.int .i64 ((B + 6) / 7 : Nat)) (.int .u64 (IntKind.u64.wrap ((n : Int) + IntKind.u64.wrap ((cn % 128 * 2 ^ (7 * i) : Nat) : Int)))) (.int .i64 i)) H
      else run (p_ratchetref01_Number_111101001001111101 (BS z b) (.int .i64 a) (.int .i64 e) (.int .i64 B) (.bool false) v10 v11 v12 (.int .i64 ((B + 6) / 7 : Nat)) (.int .u64 (IntKind.u64.wrap ((n : Int) + IntKind.u64.wrap ((cn % 128 * 2 ^ (7 * i) : Nat) : Int)))) (.int .i64 i)) H) =
      some (.ok (.tup [.int .u64 (IntKind.u64.wrap (n + if sg = true then lastS cn (7 * i) else ((cn * 2 ^ (7 * i) : Nat) : Int))), .int .i64 (a + i + 1 : Nat), .int .i64 0]) H) := by
      intro h
      rw [hm h, wu_add, wu_sub]
      cases sg with
      | true =>
        simp only [if_true] at fin ⊢
        by_cases h64 : cn < 64
        · have q : ¬ (64 : Int) ≤ cn := by omega
          rw [if_neg q, fin _ (idem _), valS3 h64]
        · have q : (64 : Int) ≤ cn := by omega
          rw [if_pos q]
          by_cases hs : 7 * i + 7 < 64
          · have q2 : ((7 * i + 7 : Nat) : Int) < 64 := by omega
            rw [if_pos q2, shiftN_u64 (by omega), valS1 h64, fin _ (idem _)]
          · have q2 : ¬ ((7 * i + 7 : Nat) : Int) < 64 := by omega
            rw [if_neg q2, valS2 h64 (by omega), fin _ (idem _)]
      | false =>
        simp only [Bool.false_eq_true, if_false] at fin ⊢
        rw [fin _ (idem _)]
    by_cases h7 : B < 7 * i + 7
    · have c2 : ((i : Int) = ((B + 6) / 7 : Nat) - 1) = True := eq_true (by omega)
      have hl := last_is (H := H) (sg := sg) hc (by omega) hi h7
      by_cases hbad : (if sg then okS (B - 7 * i) cn else cn / 2 ^ (B - 7 * i) = 0)
      · have hbt : (if sg then decide (okS (B - 7 * i) cn) else decide (cn / 2 ^ (B - 7 * i) = 0)) = true := by cases sg <;> simpa using hbad
        rw [hbt] at hl
        have n1 : ¬ (B < 7 * i + 7 ∧ ¬ (if sg then okS (B - 7 * i) cn else cn / 2 ^ (B - 7 * i) = 0)) := fun h => h.2 hbad
        have h128 : cn < 128 := by rcases dig with h | h | h; exact absurd hbad h.2; exact h; omega
        have h128' : ((cn : Int) < 128) = True := eq_true (by omega)
        rw [if_neg n1, if_pos h128]
        simp (contextual := true) (dsimp := false) (disch := omega) only [↓goDown, goUp, List.length_cons, List.length_nil, List.map_cons, List.map_nil, List.take_succ_cons, List.take_zero, List.drop_succ_cons, List.drop_zero, List.drop_nil, List.take_nil, List.cons_append, List.nil_append, List.append_nil, List.set_cons_zero, List.set_cons_succ, List.all_cons, List.all_nil, ↓reduceIte, reduceCtorEq, ge_iff_le, gt_iff_lt, eq_self_iff_true, beq_self_eq_true, beq_iff_eq, bne_iff_ne, ne_eq, ite_not, Int.reduceEq, Option.getD_some, Option.getD_none, ite_self, Nat.reduceAdd, Nat.reduceSub, Nat.reduceMul, Nat.reduceLeDiff, Nat.reduceEqDiff, Nat.reduceBEq, Nat.reduceBNe, Int.reduceLT, Int.reduceLE, Int.reduceAdd, Int.reduceSub, Int.reduceMul, Int.reduceNeg, Int.reduceNe, Int.reduceBEq, Int.reduceBNe, Int.reduceToNat, hg, byt, hcn, run_and, run_shl, run_shr, run_or, Int.toNat_natCast, c0, c1, c2, e1, e2, w1, w2, w3, e3, s1, e4, e5, hl, un_not, tmod128, h128']
        exact close h128
      · have hbt : (if sg then decide (okS (B - 7 * i) cn) else decide (cn / 2 ^ (B - 7 * i) = 0)) = false := by cases sg <;> simpa using hbad
        rw [hbt] at hl
        have n1 : (B < 7 * i + 7 ∧ ¬ (if sg then okS (B - 7 * i) cn else cn / 2 ^ (B - 7 * i) = 0)) := ⟨h7, hbad⟩
        rw [if_pos n1]
        simp (contextual := true) (dsimp := false) (disch := omega) only [↓goDown, goUp, List.length_cons, List.length_nil, List.map_cons, List.map_nil, List.take_succ_cons, List.take_zero, List.drop_succ_cons, List.drop_zero, List.drop_nil, List.take_nil, List.cons_append, List.nil_append, List.append_nil, List.set_cons_zero, List.set_cons_succ, List.all_cons, List.all_nil, ↓reduceIte, reduceCtorEq, ge_iff_le, gt_iff_lt, eq_self_iff_true, beq_self_eq_true, beq_iff_eq, bne_iff_ne, ne_eq, ite_not, Int.reduceEq, Option.getD_some, Option.getD_none, ite_self, Nat.reduceAdd, Nat.reduceSub, Nat.reduceMul, Nat.reduceLeDiff, Nat.reduceEqDiff, Nat.reduceBEq, Nat.reduceBNe, Int.reduceLT, Int.reduceLE, Int.reduceAdd, Int.reduceSub, Int.reduceMul, Int.reduceNeg, Int.reduceNe, Int.reduceBEq, Int.reduceBNe, Int.reduceToNat, hg, byt, hcn, Int.toNat_natCast, c0, c1, c2, e1, hl, un_not]
    · have c2 : ((i : Int) = ((B + 6) / 7 : Nat) - 1) = False := eq_false (by omega)
      have n1 : ¬ (B < 7 * i + 7 ∧ ¬ (if sg then okS (B - 7 * i) cn else cn / 2 ^ (B - 7 * i) = 0)) := fun h => h7 h.1
      rw [if_neg n1]
      by_cases h128 : cn < 128
      · have h128' : ((cn : Int) < 128) = True := eq_true (by omega)
        have c5 : ((7 * i + 7 : Nat) : Int) < 64 := by omega
        rw [if_pos h128]
        simp (contextual := true) (dsimp := false) (disch := omega) only [↓goDown, goUp, List.length_cons, List.length_nil, List.map_cons, List.map_nil, List.take_succ_cons, List.take_zero, List.drop_succ_cons, List.drop_zero, List.drop_nil, List.take_nil, List.cons_append, List.nil_append, List.append_nil, List.set_cons_zero, List.set_cons_succ, List.all_cons, List.all_nil, ↓reduceIte, reduceCtorEq, ge_iff_le, gt_iff_lt, eq_self_iff_true, beq_self_eq_true, beq_iff_eq, bne_iff_ne, ne_eq, ite_not, Int.reduceEq, Option.getD_some, Option.getD_none, ite_self, Nat.reduceAdd, Nat.reduceSub, Nat.reduceMul, Nat.reduceLeDiff, Nat.reduceEqDiff, Nat.reduceBEq, Nat.reduceBNe, Int.reduceLT, Int.reduceLE, Int.reduceAdd, Int.reduceSub, Int.reduceMul, Int.reduceNeg, Int.reduceNe, Int.reduceBEq, Int.reduceBNe, Int.reduceToNat, hg, byt, hcn, run_and, run_shl, run_shr, run_or, Int.toNat_natCast, c0, c1, c2, e1, e2, w1, w2, w3, e3, s1, e4, e5, un_not, tmod128, h128', c5]
        have cl := close h128
        rw [if_pos c5] at cl
        exact cl
      · have h128' : ((cn : Int) < 128) = False := eq_false (by omega)
        rw [if_neg h128]
        have hx : cn % 128 * 2 ^ (7 * i) < 2 ^ 64 := dig_lt (B := 63) (by omega) (by omega) (by
          have : 2 ^ 7 ≤ 2 ^ (63 - 7 * i) := Nat.pow_le_pow_right (by omega) (by omega)
          omega)
        have hf := fits (by omega) hn hx
        have w4 : IntKind.u64.wrap ((n : Int) + IntKind.u64.wrap ((cn % 128 * 2 ^ (7 * i) : Nat) : Int)) = ((n + cn % 128 * 2 ^ (7 * i) : Nat) : Int) := by
          rw [wu_add]
          generalize cn % 128 * 2 ^ (7 * i) = q at hf
          exact w_u64 (by omega)
        simp (contextual := true) (dsimp := false) (disch := omega) only [↓goDown, goUp, List.length_cons, List.length_nil, List.map_cons, List.map_nil, List.take_succ_cons, List.take_zero, List.drop_succ_cons, List.drop_zero, List.drop_nil, List.take_nil, List.cons_append, List.nil_append, List.append_nil, List.set_cons_zero, List.set_cons_succ, List.all_cons, List.all_nil, ↓reduceIte, reduceCtorEq, ge_iff_le, gt_iff_lt, eq_self_iff_true, beq_self_eq_true, beq_iff_eq, bne_iff_ne, ne_eq, ite_not, Int.reduceEq, Option.getD_some, Option.getD_none, ite_self, Nat.reduceAdd, Nat.reduceSub, Nat.reduceMul, Nat.reduceLeDiff, Nat.reduceEqDiff, Nat.reduceBEq, Nat.reduceBNe, Int.reduceLT, Int.reduceLE, Int.reduceAdd, Int.reduceSub, Int.reduceMul, Int.reduceNeg, Int.reduceNe, Int.reduceBEq, Int.reduceBNe, Int.reduceToNat, hg, byt, hcn, run_and, run_shl, run_shr, run_or, Int.toNat_natCast, c0, c1, c2, e1, e2, w1, w2, w3, e3, s1, e4, e5, un_not, tmod128, h128', w4]
        rfl
  · have c0 : (e : Int) ≤ ((a + i : Nat) : Int) := by omega
    simp (contextual := true) (dsimp := false) (disch := omega) only [↓goDown, goUp, List.length_cons, List.length_nil, List.map_cons, List.map_nil, List.take_succ_cons, List.take_zero, List.drop_succ_cons, List.drop_zero, List.drop_nil, List.take_nil, List.cons_append, List.nil_append, List.append_nil, List.set_cons_zero, List.set_cons_succ, List.all_cons, List.all_nil, ↓reduceIte, reduceCtorEq, ge_iff_le, gt_iff_lt, eq_self_iff_true, beq_self_eq_true, beq_iff_eq, bne_iff_ne, ne_eq, ite_not, Int.reduceEq, Option.getD_some, Option.getD_none, ite_self, Nat.reduceAdd, Nat.reduceSub, Nat.reduceMul, Nat.reduceLeDiff, Nat.reduceEqDiff, Nat.reduceBEq, Nat.reduceBNe, Int.reduceLT, Int.reduceLE, Int.reduceAdd, Int.reduceSub, Int.reduceMul, Int.reduceNeg, Int.reduceNe, Int.reduceBEq, Int.reduceBNe, Int.reduceToNat, c0, c1, e1]
    rw [if_neg hpe]
theorem numU_loop {H : Heap} {b : List UInt8} {z : Bool} {v10 v11 v12 : PV} {a e B : Nat} (he : e ≤ b.length) (hb : b.length < 2 ^ 61) (hB : B = 32 ∨ B = 64) (ha : a ≤ e) : ∀ (f i n p : Nat), p = a + i → 7 * i < B → B ≤ 7 * (i + f) → n < 2 ^ (7 * i) →
    run (p_ratchetref01_Number_1111010 (BS z b) (.int .i64 a) (.int .i64 e) (.int .i64 B) (.bool false) v10 v11 v12 (.int .i64 ((B + 6) / 7 : Nat)) (.int .u64 n) (.int .i64 i)) H = some (.ok (retU (lebU b B e f i n p)) H)
  | 0, i, n, p, hp, hi, hf, hn => by omega
  | f + 1, i, n, p, hp, hi, hf, hn => by
    subst hp
    rw [num_round he hb (by omega) hi hn ha]
    unfold lebU
    simp only [Bool.false_eq_true, if_false]
    by_cases h1 : a + i < e
    · simp only [if_pos h1]
      by_cases h2 : B < 7 * i + 7 ∧ (b.getD (a + i) 0).toNat / 2 ^ (B - 7 * i) ≠ 0
      · simp only [if_pos h2]
        rfl
      · simp only [if_neg h2]
        generalize hc : (b.getD (a + i) 0).toNat = c at *
        have hc256 : c < 256 := by rw [← hc]; exact byt_lt _
        have hz : ∀ k : Nat, 0 < 2 ^ k := fun k => Nat.pow_pos (by omega)
        have h7 : B < 7 * i + 7 → c < 2 ^ (B - 7 * i) := by
          intro h
          have h0 : c / 2 ^ (B - 7 * i) = 0 := by
            by_cases h0 : c / 2 ^ (B - 7 * i) = 0
            · exact h0
            · exact absurd ⟨h, h0⟩ h2
          rcases Nat.div_eq_zero_iff.mp h0 with h | h
          · have := hz (B - 7 * i); omega
          · exact h
        by_cases h3 : c < 128
        · simp only [if_pos h3]
          have hx : c * 2 ^ (7 * i) < 2 ^ 64 := by
            refine dig_lt (B := B) (by omega) hi ?_
            by_cases h : B < 7 * i + 7
            · exact h7 h
            · have : 2 ^ 7 ≤ 2 ^ (B - 7 * i) := Nat.pow_le_pow_right (by omega) (by omega)
              omega
          have hf := fits (by omega) hn hx
          have w4 : IntKind.u64.wrap ((n : Int) + ((c * 2 ^ (7 * i) : Nat) : Int)) = ((n + c * 2 ^ (7 * i) : Nat) : Int) := by
            generalize c * 2 ^ (7 * i) = q at hf
            exact w_u64 (n := ((n + q : Nat) : Int)) (by omega)
          rw [w4]
          rfl
        · simp only [if_neg h3]
          have h8 : ¬ B < 7 * i + 7 := by
            intro h
            have h5 := h7 h
            have : 2 ^ (B - 7 * i) ≤ 2 ^ 6 := Nat.pow_le_pow_right (by omega) (by omega)
            omega
          refine numU_loop he hb hB ha f (i + 1) _ (a + i + 1) (by omega) (by omega) (by omega) ?_
          have h4 : 2 ^ (7 * (i + 1)) = 128 * 2 ^ (7 * i) := by rw [Nat.mul_add, Nat.pow_add, Nat.mul_comm]
          have h5 : c % 128 * 2 ^ (7 * i) ≤ 127 * 2 ^ (7 * i) := Nat.mul_le_mul_right _ (by omega)
          omega
    · simp only [if_neg h1]
      rfl
theorem numS_loop {H : Heap} {b : List UInt8} {z : Bool} {v10 v11 v12 : PV} {a e B : Nat} (he : e ≤ b.length) (hb : b.length < 2 ^ 61) (hB : B = 32 ∨ B = 33 ∨ B = 64) (ha : a ≤ e) : ∀ (f i n p : Nat), p = a + i → 7 * i < B → B ≤ 7 * (i + f) → n < 2 ^ (7 * i) →
    run (p_ratchetref01_Number_1111010 (BS z b) (.int .i64 a) (.int .i64 e) (.int .i64 B) (.bool true) v10 v11 v12 (.int .i64 ((B + 6) / 7 : Nat)) (.int .u64 n) (.int .i64 i)) H = some (.ok (retN (lebS b B e f i n p)) H)
  | 0, i, n, p, hp, hi, hf, hn => by omega
  | f + 1, i, n, p, hp, hi, hf, hn => by
    subst hp
    rw [num_round he hb hB hi hn ha]
    unfold lebS
    simp only [if_true]
    by_cases h1 : a + i < e
    · simp only [if_pos h1]
      by_cases h2 : B < 7 * i + 7 ∧ ¬ okS (B - 7 * i) (b.getD (a + i) 0).toNat
      · simp only [if_pos h2]
        rfl
      · simp only [if_neg h2]
        by_cases h3 : (b.getD (a + i) 0).toNat < 128
        · simp only [if_pos h3]
          unfold retN
          dsimp only
          rw [wu_wi]
        · simp only [if_neg h3]
          have h7 : ¬ B < 7 * i + 7 := fun h => h2 ⟨h, fun h0 => h3 h0.1⟩
          refine numS_loop he hb hB ha f (i + 1) _ (a + i + 1) (by omega) (by omega) (by omega) ?_
          have h4 : 2 ^ (7 * (i + 1)) = 128 * 2 ^ (7 * i) := by rw [Nat.mul_add, Nat.pow_add, Nat.mul_comm]
          have h5 : (b.getD (a + i) 0).toNat % 128 * 2 ^ (7 * i) ≤ 127 * 2 ^ (7 * i) := Nat.mul_le_mul_right _ (by omega)
          omega
    · simp only [if_neg h1]
      rfl
theorem reads_is {H : Heap} {b : List UInt8} {z : Bool} {a e : Nat} (he : e ≤ b.length) (ha : a ≤ e) :
    run (C k_ratchetref01_reads [BS z b, .int .i64 a, .int .i64 e]) H = some (.ok (.bool true) H) := by
  rw [ratchetref01_reads_eq]
  have c1 : ((0 : Int) ≤ a) = True := eq_true (by omega)
  have c2 : ((e : Int) ≤ b.length) = True := eq_true (by omega)
  have c3 : ((a : Int) ≤ e) = True := eq_true (by omega)
  simp (contextual := true) (dsimp := false) (disch := omega) only [↓goDown, goUp, List.length_cons, List.length_nil, List.map_cons, List.map_nil, List.take_succ_cons, List.take_zero, List.drop_succ_cons, List.drop_zero, List.drop_nil, List.take_nil, List.cons_append, List.nil_append, List.append_nil, List.set_cons_zero, List.set_cons_succ, List.all_cons, List.all_nil, ↓reduceIte, reduceCtorEq, ge_iff_le, gt_iff_lt, eq_self_iff_true, beq_self_eq_true, beq_iff_eq, bne_iff_ne, ne_eq, ite_not, Int.reduceEq, Option.getD_some, Option.getD_none, ite_self, Nat.reduceAdd, Nat.reduceSub, Nat.reduceMul, Nat.reduceLeDiff, Nat.reduceEqDiff, Nat.reduceBEq, Nat.reduceBNe, Int.reduceLT, Int.reduceLE, Int.reduceAdd, Int.reduceSub, Int.reduceMul, Int.reduceNeg, Int.reduceNe, Int.reduceBEq, Int.reduceBNe, Int.reduceToNat, c1, c2, c3, List.length_map]
theorem number_U {H : Heap} {b : List UInt8} {z : Bool} {a e B : Nat} (he : e ≤ b.length) (hb : b.length < 2 ^ 61) (hB : B = 32 ∨ B = 64) (ha : a ≤ e) :
    run (C k_ratchetref01_Number [BS z b, .int .i64 a, .int .i64 e, .int .i64 B, .bool false]) H = some (.ok (retU (rdU b B e a)) H) := by
  rw [ratchetref01_Number_eq]
  have hl : ∀ n, (retU (rdU b B e a)).low n = true := by intro n; unfold retU; split <;> simp [lowL_cons, lowL_nil, low_tup, low_int]
  have h : ∀ (x y w : PV), run (p_ratchetref01_Number_1111010 (BS z b) (.int .i64 a) (.int .i64 e) (.int .i64 B) (.bool false) x y w (.int .i64 ((B + 6) / 7 : Nat)) (.int .u64 0) (.int .i64 0)) H = some (.ok (retU (rdU b B e a)) H) :=
    fun x y w => numU_loop he hb hB ha 10 0 0 a (by omega) (by omega) (by omega) (by decide)
  have e1 : IntKind.i64.wrap (((B : Int) + 6).tdiv 7) = (((B + 6) / 7 : Nat) : Int) := by rcases hB with rfl | rfl <;> decide
  have hq : (7 : Int) ≠ 0 := by decide
  simp (contextual := true) (dsimp := false) (disch := omega) only [↓goDown, goUp, List.length_cons, List.length_nil, List.map_cons, List.map_nil, List.take_succ_cons, List.take_zero, List.drop_succ_cons, List.drop_zero, List.drop_nil, List.take_nil, List.cons_append, List.nil_append, List.append_nil, List.set_cons_zero, List.set_cons_succ, List.all_cons, List.all_nil, ↓reduceIte, reduceCtorEq, ge_iff_le, gt_iff_lt, eq_self_iff_true, beq_self_eq_true, beq_iff_eq, bne_iff_ne, ne_eq, ite_not, Int.reduceEq, Option.getD_some, Option.getD_none, ite_self, Nat.reduceAdd, Nat.reduceSub, Nat.reduceMul, Nat.reduceLeDiff, Nat.reduceEqDiff, Nat.reduceBEq, Nat.reduceBNe, Int.reduceLT, Int.reduceLE, Int.reduceAdd, Int.reduceSub, Int.reduceMul, Int.reduceNeg, Int.reduceNe, Int.reduceBEq, Int.reduceBNe, Int.reduceToNat, reads_is he ha, un_not, h, hl, e1]
theorem number_S {H : Heap} {b : List UInt8} {z : Bool} {a e B : Nat} (he : e ≤ b.length) (hb : b.length < 2 ^ 61) (hB : B = 32 ∨ B = 33 ∨ B = 64) (ha : a ≤ e) :
    run (C k_ratchetref01_Number [BS z b, .int .i64 a, .int .i64 e, .int .i64 B, .bool true]) H = some (.ok (retN (rdS b B e a)) H) := by
  rw [ratchetref01_Number_eq]
  have hl : ∀ n, (retN (rdS b B e a)).low n = true := by intro n; unfold retN; split <;> simp [lowL_cons, lowL_nil, low_tup, low_int]
  have h : ∀ (x y w : PV), run (p_ratchetref01_Number_1111010 (BS z b) (.int .i64 a) (.int .i64 e) (.int .i64 B) (.bool true) x y w (.int .i64 ((B + 6) / 7 : Nat)) (.int .u64 0) (.int .i64 0)) H = some (.ok (retN (rdS b B e a)) H) :=
    fun x y w => numS_loop he hb hB ha 10 0 0 a (by omega) (by omega) (by omega) (by decide)
  have e1 : IntKind.i64.wrap (((B : Int) + 6).tdiv 7) = (((B + 6) / 7 : Nat) : Int) := by rcases hB with rfl | rfl | rfl <;> decide
  have hq : (7 : Int) ≠ 0 := by decide
  simp (contextual := true) (dsimp := false) (disch := omega) only [↓goDown, goUp, List.length_cons, List.length_nil, List.map_cons, List.map_nil, List.take_succ_cons, List.take_zero, List.drop_succ_cons, List.drop_zero, List.drop_nil, List.take_nil, List.cons_append, List.nil_append, List.append_nil, List.set_cons_zero, List.set_cons_succ, List.all_cons, List.all_nil, ↓reduceIte, reduceCtorEq, ge_iff_le, gt_iff_lt, eq_self_iff_true, beq_self_eq_true, beq_iff_eq, bne_iff_ne, ne_eq, ite_not, Int.reduceEq, Option.getD_some, Option.getD_none, ite_self, Nat.reduceAdd, Nat.reduceSub, Nat.reduceMul, Nat.reduceLeDiff, Nat.reduceEqDiff, Nat.reduceBEq, Nat.reduceBNe, Int.reduceLT, Int.reduceLE, Int.reduceAdd, Int.reduceSub, Int.reduceMul, Int.reduceNeg, Int.reduceNe, Int.reduceBEq, Int.reduceBNe, Int.reduceToNat, reads_is he ha, un_not, h, hl, e1]
end Go.Proofs.Ytofbbijagbpicaa.Pi.Q
/- The program's readers of types: what they come to. -/
namespace Go.Proofs.Ytofbbijagbpicaa.Pi.Q
open Go Go.Proofs.Ytofbbijagbpicaa.Pi
set_option linter.unusedVariables false
set_option linter.unusedSimpArgs false
set_option maxRecDepth 100000
attribute [local congr] ite_congr
/-! ### Numbers within their bounds -/
theorem lebU_lt {b : List UInt8} {B e : Nat} (hB : B % 7 ≠ 0) : ∀ (f i n p : Nat), 7 * i < B → n < 2 ^ (7 * i) → ∀ v q, lebU b B e f i n p = .ok v q → v < 2 ^ B ∧ p < q ∧ q ≤ e
  | 0, i, n, p, hi, hn, v, q, h => by cases h
  | f + 1, i, n, p, hi, hn, v, q, h => by
    unfold lebU at h
    by_cases h1 : p < e
    · simp only [if_pos h1] at h
      by_cases h2 : B < 7 * i + 7 ∧ (b.getD p 0).toNat / 2 ^ (B - 7 * i) ≠ 0
      · simp only [if_pos h2] at h; cases h
      · simp only [if_neg h2] at h
        generalize hc : (b.getD p 0).toNat = c at *
        have hz : ∀ k : Nat, 0 < 2 ^ k := fun k => Nat.pow_pos (by omega)
        have h7 : B < 7 * i + 7 → c < 2 ^ (B - 7 * i) := by
          intro h
          have h0 : c / 2 ^ (B - 7 * i) = 0 := by
            by_cases h0 : c / 2 ^ (B - 7 * i) = 0
            · exact h0
            · exact absurd ⟨h, h0⟩ h2
          rcases Nat.div_eq_zero_iff.mp h0 with h | h
          · have := hz (B - 7 * i); omega
          · exact h
        by_cases h3 : c < 128
        · simp only [if_pos h3, Rs.ok.injEq] at h
          obtain ⟨rfl, rfl⟩ := h
          have hlt : c < 2 ^ (B - 7 * i) := by
            by_cases h : B < 7 * i + 7
            · exact h7 h
            · have : 2 ^ 7 ≤ 2 ^ (B - 7 * i) := Nat.pow_le_pow_right (by omega) (by omega)
              omega
          refine ⟨?_, by omega, by omega⟩
          have h4 : (c + 1) * 2 ^ (7 * i) ≤ 2 ^ (B - 7 * i) * 2 ^ (7 * i) := Nat.mul_le_mul_right _ hlt
          have h5 : 2 ^ (B - 7 * i) * 2 ^ (7 * i) = 2 ^ B := by rw [← Nat.pow_add, Nat.sub_add_cancel (by omega)]
          rw [Nat.add_mul] at h4
          omega
        · simp only [if_neg h3] at h
          have h8 : ¬ B < 7 * i + 7 := by
            intro h
            have h5 := h7 h
            have : 2 ^ (B - 7 * i) ≤ 2 ^ 6 := Nat.pow_le_pow_right (by omega) (by omega)
            omega
          have h4 : 2 ^ (7 * (i + 1)) = 128 * 2 ^ (7 * i) := by rw [Nat.mul_add, Nat.pow_add, Nat.mul_comm]
          have h5 : c % 128 * 2 ^ (7 * i) ≤ 127 * 2 ^ (7 * i) := Nat.mul_le_mul_right _ (by omega)
          obtain ⟨a1, a2, a3⟩ := lebU_lt hB f (i + 1) _ (p + 1) (by omega) (by omega) v q h
          exact ⟨a1, by omega, a3⟩
    · simp only [if_neg h1] at h; cases h
theorem lebS_lt {b : List UInt8} {B e : Nat} : ∀ (f i n p : Nat) v q, lebS b B e f i n p = .ok v q → -9223372036854775808 ≤ v ∧ v ≤ 9223372036854775807 ∧ p < q ∧ q ≤ e
  | 0, i, n, p, v, q, h => by cases h
  | f + 1, i, n, p, v, q, h => by
    unfold lebS at h
    by_cases h1 : p < e
    · simp only [if_pos h1] at h
      by_cases h2 : B < 7 * i + 7 ∧ ¬ okS (B - 7 * i) (b.getD p 0).toNat
      · simp only [if_pos h2] at h; cases h
      · simp only [if_neg h2] at h
        by_cases h3 : (b.getD p 0).toNat < 128
        · simp only [if_pos h3, Rs.ok.injEq] at h
          obtain ⟨rfl, rfl⟩ := h
          rw [wi]
          omega
        · simp only [if_neg h3] at h
          obtain ⟨a1, a2, a3, a4⟩ := lebS_lt f (i + 1) _ (p + 1) v q h
          exact ⟨a1, a2, by omega, a4⟩
    · simp only [if_neg h1] at h; cases h
theorem rdU32_lt {b : List UInt8} {e p v q : Nat} (h : rdU b 32 e p = .ok v q) : v < 2 ^ 32 ∧ p < q ∧ q ≤ e := lebU_lt (by decide) 10 0 0 p (by omega) (by decide) v q h
theorem rdS_lt {b : List UInt8} {B e p q : Nat} {v : Int} (h : rdS b B e p = .ok v q) : -9223372036854775808 ≤ v ∧ v ≤ 9223372036854775807 ∧ p < q ∧ q ≤ e := lebS_lt 10 0 0 p v q h
def retK (k : IntKind) : Rs Nat → PV
  | .ok n p => .tup [.int k n, .int .i64 p, .int .i64 0]
  | .err p e => .tup [.int k 0, .int .i64 p, .int .i64 e]
theorem leb_u32_is {H : Heap} {b : List UInt8} {z : Bool} {p e : Nat} (he : e ≤ b.length) (hb : b.length < 2 ^ 61) :
    run (C k_leb_u32 [.agg [BS z b, .int .i64 p, .int .i64 e]]) H = some (.ok (retU (rdU b 32 e p)) H) := by
  rw [leb_u32_eq]
  have h := leb_unsigned_is (H := hadd H [.cells [BS z b, .int .i64 p, .int .i64 e]]) (z := z) (p := p) (B := 32) he (by omega) (.inl rfl)
  have h : run (C k_leb_window_unsigned [.agg [BS z b, .int .i64 p, .int .i64 e], .int .i64 32]) (hadd H [.cells [BS z b, .int .i64 p, .int .i64 e]]) = _ := h
  cases hr : rdU b 32 e p <;> rw [hr] at h <;> simp only [retU] at h ⊢ <;>
    simp (contextual := true) (dsimp := false) (disch := omega) only [↓goDown, goUp, List.length_cons, List.length_nil, List.map_cons, List.map_nil, List.take_succ_cons, List.take_zero, List.drop_succ_cons, List.drop_zero, List.drop_nil, List.take_nil, List.cons_append, List.nil_append, List.append_nil, List.set_cons_zero, List.set_cons_succ, List.all_cons, List.all_nil, ↓reduceIte, reduceCtorEq, ge_iff_le, gt_iff_lt, eq_self_iff_true, beq_self_eq_true, beq_iff_eq, bne_iff_ne, ne_eq, ite_not, Int.reduceEq, Option.getD_some, Option.getD_none, ite_self, Nat.reduceAdd, Nat.reduceSub, Nat.reduceMul, Nat.reduceLeDiff, Nat.reduceEqDiff, Nat.reduceBEq, Nat.reduceBNe, Int.reduceLT, Int.reduceLE, Int.reduceAdd, Int.reduceSub, Int.reduceMul, Int.reduceNeg, Int.reduceNe, Int.reduceBEq, Int.reduceBNe, Int.reduceToNat, h]
theorem leb_s33_is {H : Heap} {b : List UInt8} {z : Bool} {p e : Nat} (he : e ≤ b.length) (hb : b.length < 2 ^ 61) :
    run (C k_leb_s33 [.agg [BS z b, .int .i64 p, .int .i64 e]]) H = some (.ok (retS (rdS b 33 e p)) H) := by
  rw [leb_s33_eq]
  have h := leb_signed_is (H := hadd H [.cells [BS z b, .int .i64 p, .int .i64 e]]) (z := z) (p := p) (B := 33) he (by omega) (.inr (.inl rfl))
  have h : run (C k_leb_window_signed [.agg [BS z b, .int .i64 p, .int .i64 e], .int .i64 33]) (hadd H [.cells [BS z b, .int .i64 p, .int .i64 e]]) = _ := h
  cases hr : rdS b 33 e p <;> rw [hr] at h <;> simp only [retS] at h ⊢ <;>
    simp (contextual := true) (dsimp := false) (disch := omega) only [↓goDown, goUp, List.length_cons, List.length_nil, List.map_cons, List.map_nil, List.take_succ_cons, List.take_zero, List.drop_succ_cons, List.drop_zero, List.drop_nil, List.take_nil, List.cons_append, List.nil_append, List.append_nil, List.set_cons_zero, List.set_cons_succ, List.all_cons, List.all_nil, ↓reduceIte, reduceCtorEq, ge_iff_le, gt_iff_lt, eq_self_iff_true, beq_self_eq_true, beq_iff_eq, bne_iff_ne, ne_eq, ite_not, Int.reduceEq, Option.getD_some, Option.getD_none, ite_self, Nat.reduceAdd, Nat.reduceSub, Nat.reduceMul, Nat.reduceLeDiff, Nat.reduceEqDiff, Nat.reduceBEq, Nat.reduceBNe, Int.reduceLT, Int.reduceLE, Int.reduceAdd, Int.reduceSub, Int.reduceMul, Int.reduceNeg, Int.reduceNe, Int.reduceBEq, Int.reduceBNe, Int.reduceToNat, h]
theorem opened_in {H : Heap} {b : List UInt8} {z : Bool} {p e : Nat} (he : e ≤ b.length) (hp : p ≤ e) :
    run (C k_leb_opened [BS z b, .int .i64 p, .int .i64 e]) H = some (.ok (.tup [.agg [BS z b, .int .i64 p, .int .i64 e], .int .i64 0]) H) := by
  rw [leb_opened_is, if_neg (by omega)]
theorem leb_U32_is {H : Heap} {b : List UInt8} {z : Bool} {p e : Nat} (he : e ≤ b.length) (hb : b.length < 2 ^ 61) (hp : p ≤ e) :
    run (C k_leb_U32 [BS z b, .int .i64 p, .int .i64 e]) H = some (.ok (retK .u32 (rdU b 32 e p)) H) := by
  have h1 : run (C k_leb_number_uint32_uint64 [BS z b, .int .i64 p, .int .i64 e, .fn k_leb_u32 [] []]) H = some (.ok (retK .u32 (rdU b 32 e p)) H) := by
    rw [leb_number_uint32_uint64_eq]
    have h := leb_u32_is (H := hadd H [.cells [BS z b, .int .i64 p, .int .i64 e]]) (z := z) (p := p) he hb
    cases hr : rdU b 32 e p with
    | ok v q =>
      have hv := rdU32_lt hr
      rw [hr] at h
      simp only [retU, retK] at h ⊢
      simp (contextual := true) (dsimp := false) (disch := omega) only [↓goDown, goUp, List.length_cons, List.length_nil, List.map_cons, List.map_nil, List.take_succ_cons, List.take_zero, List.drop_succ_cons, List.drop_zero, List.drop_nil, List.take_nil, List.cons_append, List.nil_append, List.append_nil, List.set_cons_zero, List.set_cons_succ, List.all_cons, List.all_nil, ↓reduceIte, reduceCtorEq, ge_iff_le, gt_iff_lt, eq_self_iff_true, beq_self_eq_true, beq_iff_eq, bne_iff_ne, ne_eq, ite_not, Int.reduceEq, Option.getD_some, Option.getD_none, ite_self, Nat.reduceAdd, Nat.reduceSub, Nat.reduceMul, Nat.reduceLeDiff, Nat.reduceEqDiff, Nat.reduceBEq, Nat.reduceBNe, Int.reduceLT, Int.reduceLE, Int.reduceAdd, Int.reduceSub, Int.reduceMul, Int.reduceNeg, Int.reduceNe, Int.reduceBEq, Int.reduceBNe, Int.reduceToNat, h, opened_in he hp]
    | err a w =>
      rw [hr] at h
      simp only [retU, retK] at h ⊢
      simp (contextual := true) (dsimp := false) (disch := omega) only [↓goDown, goUp, List.length_cons, List.length_nil, List.map_cons, List.map_nil, List.take_succ_cons, List.take_zero, List.drop_succ_cons, List.drop_zero, List.drop_nil, List.take_nil, List.cons_append, List.nil_append, List.append_nil, List.set_cons_zero, List.set_cons_succ, List.all_cons, List.all_nil, ↓reduceIte, reduceCtorEq, ge_iff_le, gt_iff_lt, eq_self_iff_true, beq_self_eq_true, beq_iff_eq, bne_iff_ne, ne_eq, ite_not, Int.reduceEq, Option.getD_some, Option.getD_none, ite_self, Nat.reduceAdd, Nat.reduceSub, Nat.reduceMul, Nat.reduceLeDiff, Nat.reduceEqDiff, Nat.reduceBEq, Nat.reduceBNe, Int.reduceLT, Int.reduceLE, Int.reduceAdd, Int.reduceSub, Int.reduceMul, Int.reduceNeg, Int.reduceNe, Int.reduceBEq, Int.reduceBNe, Int.reduceToNat, h, opened_in he hp]
  rw [leb_U32_eq]
  cases hr : rdU b 32 e p <;> rw [hr] at h1 <;> simp only [retK] at h1 ⊢ <;>
    simp (contextual := true) (dsimp := false) (disch := omega) only [↓goDown, goUp, List.length_cons, List.length_nil, List.map_cons, List.map_nil, List.take_succ_cons, List.take_zero, List.drop_succ_cons, List.drop_zero, List.drop_nil, List.take_nil, List.cons_append, List.nil_append, List.append_nil, List.set_cons_zero, List.set_cons_succ, List.all_cons, List.all_nil, ↓reduceIte, reduceCtorEq, ge_iff_le, gt_iff_lt, eq_self_iff_true, beq_self_eq_true, beq_iff_eq, bne_iff_ne, ne_eq, ite_not, Int.reduceEq, Option.getD_some, Option.getD_none, ite_self, Nat.reduceAdd, Nat.reduceSub, Nat.reduceMul, Nat.reduceLeDiff, Nat.reduceEqDiff, Nat.reduceBEq, Nat.reduceBNe, Int.reduceLT, Int.reduceLE, Int.reduceAdd, Int.reduceSub, Int.reduceMul, Int.reduceNeg, Int.reduceNe, Int.reduceBEq, Int.reduceBNe, Int.reduceToNat, h1]
theorem leb_S33_is {H : Heap} {b : List UInt8} {z : Bool} {p e : Nat} (he : e ≤ b.length) (hb : b.length < 2 ^ 61) (hp : p ≤ e) :
    run (C k_leb_S33 [BS z b, .int .i64 p, .int .i64 e]) H = some (.ok (retS (rdS b 33 e p)) H) := by
  have h1 : run (C k_leb_number_int64_int64 [BS z b, .int .i64 p, .int .i64 e, .fn k_leb_s33 [] []]) H = some (.ok (retS (rdS b 33 e p)) H) := by
    rw [leb_number_int64_int64_eq]
    have h := leb_s33_is (H := hadd H [.cells [BS z b, .int .i64 p, .int .i64 e]]) (z := z) (p := p) he hb
    cases hr : rdS b 33 e p <;> rw [hr] at h <;> simp only [retS] at h ⊢ <;>
      simp (contextual := true) (dsimp := false) (disch := omega) only [↓goDown, goUp, List.length_cons, List.length_nil, List.map_cons, List.map_nil, List.take_succ_cons, List.take_zero, List.drop_succ_cons, List.drop_zero, List.drop_nil, List.take_nil, List.cons_append, List.nil_append, List.append_nil, List.set_cons_zero, List.set_cons_succ, List.all_cons, List.all_nil, ↓reduceIte, reduceCtorEq, ge_iff_le, gt_iff_lt, eq_self_iff_true, beq_self_eq_true, beq_iff_eq, bne_iff_ne, ne_eq, ite_not, Int.reduceEq, Option.getD_some, Option.getD_none, ite_self, Nat.reduceAdd, Nat.reduceSub, Nat.reduceMul, Nat.reduceLeDiff, Nat.reduceEqDiff, Nat.reduceBEq, Nat.reduceBNe, Int.reduceLT, Int.reduceLE, Int.reduceAdd, Int.reduceSub, Int.reduceMul, Int.reduceNeg, Int.reduceNe, Int.reduceBEq, Int.reduceBNe, Int.reduceToNat, h, opened_in he hp]
  rw [leb_S33_eq]
  cases hr : rdS b 33 e p <;> rw [hr] at h1 <;> simp only [retS] at h1 ⊢ <;>
    simp (contextual := true) (dsimp := false) (disch := omega) only [↓goDown, goUp, List.length_cons, List.length_nil, List.map_cons, List.map_nil, List.take_succ_cons, List.take_zero, List.drop_succ_cons, List.drop_zero, List.drop_nil, List.take_nil, List.cons_append, List.nil_append, List.append_nil, List.set_cons_zero, List.set_cons_succ, List.all_cons, List.all_nil, ↓reduceIte, reduceCtorEq, ge_iff_le, gt_iff_lt, eq_self_iff_true, beq_self_eq_true, beq_iff_eq, bne_iff_ne, ne_eq, ite_not, Int.reduceEq, Option.getD_some, Option.getD_none, ite_self, Nat.reduceAdd, Nat.reduceSub, Nat.reduceMul, Nat.reduceLeDiff, Nat.reduceEqDiff, Nat.reduceBEq, Nat.reduceBNe, Int.reduceLT, Int.reduceLE, Int.reduceAdd, Int.reduceSub, Int.reduceMul, Int.reduceNeg, Int.reduceNe, Int.reduceBEq, Int.reduceBNe, Int.reduceToNat, h1]
/-! ### The cursor -/
def curB (z : Bool) (b : List UInt8) (p : Nat) : Box := .cells [BS z b, .int .i64 p]
/-- A fault, as a panic's value. -/
def flt (p e : Nat) : PV := .iface y_entry_fault (.agg [.int .i64 p, .int .i64 e])
/-- What a method of the cursor comes to; q: where the cursor stands behind a fault. -/
def outC (z : Bool) (b : List UInt8) (c : Nat) (H : Heap) (q : Nat) {α : Type} (enc : α → PV) : Rs α → Option (Out PV)
  | .ok v p => some (.ok (enc v) (hset H c (curB z b p)))
  | .err p e => some (.pan (flt p e) (hset H c (curB z b q)))
theorem fail_is {H : Heap} {r : PV} {p e : Int} : run (C k_entry_cursor_fail [r, .int .i64 p, .int .i64 e]) H = some (.pan (.iface y_entry_fault (.agg [.int .i64 p, .int .i64 e])) H) := by
  rw [entry_cursor_fail_eq]
  simp (contextual := true) (dsimp := false) (disch := omega) only [↓goDown, goUp, List.length_cons, List.length_nil, List.map_cons, List.map_nil, List.take_succ_cons, List.take_zero, List.drop_succ_cons, List.drop_zero, List.drop_nil, List.take_nil, List.cons_append, List.nil_append, List.append_nil, List.set_cons_zero, List.set_cons_succ, List.all_cons, List.all_nil, ↓reduceIte, reduceCtorEq, ge_iff_le, gt_iff_lt, eq_self_iff_true, beq_self_eq_true, beq_iff_eq, bne_iff_ne, ne_eq, ite_not, Int.reduceEq, Option.getD_some, Option.getD_none, ite_self, Nat.reduceAdd, Nat.reduceSub, Nat.reduceMul, Nat.reduceLeDiff, Nat.reduceEqDiff, Nat.reduceBEq, Nat.reduceBNe, Int.reduceLT, Int.reduceLE, Int.reduceAdd, Int.reduceSub, Int.reduceMul, Int.reduceNeg, Int.reduceNe, Int.reduceBEq, Int.reduceBNe, Int.reduceToNat]
def rLook (b : List UInt8) (p : Nat) : Rs Nat := if p < b.length then .ok (b.getD p 0).toNat p else .err b.length 3
theorem look_is {H : Heap} {b : List UInt8} {z : Bool} {c p : Nat} (hH : hget H c = some (curB z b p)) (hb : b.length < 2 ^ 61) :
    run (C k_entry_cursor_look [.ptr c 0]) H = outC z b c H p (fun x : Nat => .int .u8 x) (rLook b p) := by
  have hid := get_lt hH
  have hset := set_self hH
  rw [entry_cursor_look_eq]
  unfold rLook
  have hH' := hH
  unfold curB at hH
  by_cases hp : p < b.length
  · have hg := byt_get hp
    have hgd : b.getD p 0 = b[p] := by simp [hp]
    have c0 : ¬ (b.length : Int) ≤ p := by omega
    rw [if_pos hp, hgd]
    simp only [outC, hset]
    simp (contextual := true) (dsimp := false) (disch := omega) only [↓goDown, goUp, List.length_cons, List.length_nil, List.map_cons, List.map_nil, List.take_succ_cons, List.take_zero, List.drop_succ_cons, List.drop_zero, List.drop_nil, List.take_nil, List.cons_append, List.nil_append, List.append_nil, List.set_cons_zero, List.set_cons_succ, List.all_cons, List.all_nil, ↓reduceIte, reduceCtorEq, ge_iff_le, gt_iff_lt, eq_self_iff_true, beq_self_eq_true, beq_iff_eq, bne_iff_ne, ne_eq, ite_not, Int.reduceEq, Option.getD_some, Option.getD_none, ite_self, Nat.reduceAdd, Nat.reduceSub, Nat.reduceMul, Nat.reduceLeDiff, Nat.reduceEqDiff, Nat.reduceBEq, Nat.reduceBNe, Int.reduceLT, Int.reduceLE, Int.reduceAdd, Int.reduceSub, Int.reduceMul, Int.reduceNeg, Int.reduceNe, Int.reduceBEq, Int.reduceBNe, Int.reduceToNat, hH, hg, byt, c0, List.length_map, p_entry_cursor_look_11_eq, Int.toNat_natCast]
  · have c0 : (b.length : Int) ≤ p := by omega
    rw [if_neg hp]
    simp only [outC, hset]
    simp (contextual := true) (dsimp := false) (disch := omega) only [↓goDown, goUp, List.length_cons, List.length_nil, List.map_cons, List.map_nil, List.take_succ_cons, List.take_zero, List.drop_succ_cons, List.drop_zero, List.drop_nil, List.take_nil, List.cons_append, List.nil_append, List.append_nil, List.set_cons_zero, List.set_cons_succ, List.all_cons, List.all_nil, ↓reduceIte, reduceCtorEq, ge_iff_le, gt_iff_lt, eq_self_iff_true, beq_self_eq_true, beq_iff_eq, bne_iff_ne, ne_eq, ite_not, Int.reduceEq, Option.getD_some, Option.getD_none, ite_self, Nat.reduceAdd, Nat.reduceSub, Nat.reduceMul, Nat.reduceLeDiff, Nat.reduceEqDiff, Nat.reduceBEq, Nat.reduceBNe, Int.reduceLT, Int.reduceLE, Int.reduceAdd, Int.reduceSub, Int.reduceMul, Int.reduceNeg, Int.reduceNe, Int.reduceBEq, Int.reduceBNe, Int.reduceToNat, hH, c0, List.length_map, fail_is]
    rfl
theorem got_u32_ok {H : Heap} {b : List UInt8} {z : Bool} {c p q : Nat} {v : Nat} (hH : hget H c = some (curB z b p)) :
    run (C k_entry_got_uint32 [.ptr c 0, .int .u32 v, .int .i64 q, .int .i64 0]) H = some (.ok (.int .u32 v) (hset H c (curB z b q))) := by
  have hid := get_lt hH
  unfold curB at hH
  rw [entry_got_uint32_eq]
  simp (contextual := true) (dsimp := false) (disch := omega) only [↓goDown, goUp, List.length_cons, List.length_nil, List.map_cons, List.map_nil, List.take_succ_cons, List.take_zero, List.drop_succ_cons, List.drop_zero, List.drop_nil, List.take_nil, List.cons_append, List.nil_append, List.append_nil, List.set_cons_zero, List.set_cons_succ, List.all_cons, List.all_nil, ↓reduceIte, reduceCtorEq, ge_iff_le, gt_iff_lt, eq_self_iff_true, beq_self_eq_true, beq_iff_eq, bne_iff_ne, ne_eq, ite_not, Int.reduceEq, Option.getD_some, Option.getD_none, ite_self, Nat.reduceAdd, Nat.reduceSub, Nat.reduceMul, Nat.reduceLeDiff, Nat.reduceEqDiff, Nat.reduceBEq, Nat.reduceBNe, Int.reduceLT, Int.reduceLE, Int.reduceAdd, Int.reduceSub, Int.reduceMul, Int.reduceNeg, Int.reduceNe, Int.reduceBEq, Int.reduceBNe, Int.reduceToNat, hH, p_entry_got_uint32_11_eq]
  rfl
theorem got_u32_err {H : Heap} {r v : PV} {q e : Nat} (he : e ≠ 0) :
    run (C k_entry_got_uint32 [r, v, .int .i64 q, .int .i64 e]) H = some (.pan (flt q e) H) := by
  rw [entry_got_uint32_eq]
  have c0 : ¬ (e : Int) = 0 := by omega
  simp (contextual := true) (dsimp := false) (disch := omega) only [↓goDown, goUp, List.length_cons, List.length_nil, List.map_cons, List.map_nil, List.take_succ_cons, List.take_zero, List.drop_succ_cons, List.drop_zero, List.drop_nil, List.take_nil, List.cons_append, List.nil_append, List.append_nil, List.set_cons_zero, List.set_cons_succ, List.all_cons, List.all_nil, ↓reduceIte, reduceCtorEq, ge_iff_le, gt_iff_lt, eq_self_iff_true, beq_self_eq_true, beq_iff_eq, bne_iff_ne, ne_eq, ite_not, Int.reduceEq, Option.getD_some, Option.getD_none, ite_self, Nat.reduceAdd, Nat.reduceSub, Nat.reduceMul, Nat.reduceLeDiff, Nat.reduceEqDiff, Nat.reduceBEq, Nat.reduceBNe, Int.reduceLT, Int.reduceLE, Int.reduceAdd, Int.reduceSub, Int.reduceMul, Int.reduceNeg, Int.reduceNe, Int.reduceBEq, Int.reduceBNe, Int.reduceToNat, c0, fail_is]
  rfl
theorem got_i64_ok {H : Heap} {b : List UInt8} {z : Bool} {c p q : Nat} {v : Int} (hH : hget H c = some (curB z b p)) :
    run (C k_entry_got_int64 [.ptr c 0, .int .i64 v, .int .i64 q, .int .i64 0]) H = some (.ok (.int .i64 v) (hset H c (curB z b q))) := by
  have hid := get_lt hH
  unfold curB at hH
  rw [entry_got_int64_eq]
  simp (contextual := true) (dsimp := false) (disch := omega) only [↓goDown, goUp, List.length_cons, List.length_nil, List.map_cons, List.map_nil, List.take_succ_cons, List.take_zero, List.drop_succ_cons, List.drop_zero, List.drop_nil, List.take_nil, List.cons_append, List.nil_append, List.append_nil, List.set_cons_zero, List.set_cons_succ, List.all_cons, List.all_nil, ↓reduceIte, reduceCtorEq, ge_iff_le, gt_iff_lt, eq_self_iff_true, beq_self_eq_true, beq_iff_eq, bne_iff_ne, ne_eq, ite_not, Int.reduceEq, Option.getD_some, Option.getD_none, ite_self, Nat.reduceAdd, Nat.reduceSub, Nat.reduceMul, Nat.reduceLeDiff, Nat.reduceEqDiff, Nat.reduceBEq, Nat.reduceBNe, Int.reduceLT, Int.reduceLE, Int.reduceAdd, Int.reduceSub, Int.reduceMul, Int.reduceNeg, Int.reduceNe, Int.reduceBEq, Int.reduceBNe, Int.reduceToNat, hH, p_entry_got_int64_11_eq]
  rfl
theorem got_i64_err {H : Heap} {r v : PV} {q e : Nat} (he : e ≠ 0) :
    run (C k_entry_got_int64 [r, v, .int .i64 q, .int .i64 e]) H = some (.pan (flt q e) H) := by
  rw [entry_got_int64_eq]
  have c0 : ¬ (e : Int) = 0 := by omega
  simp (contextual := true) (dsimp := false) (disch := omega) only [↓goDown, goUp, List.length_cons, List.length_nil, List.map_cons, List.map_nil, List.take_succ_cons, List.take_zero, List.drop_succ_cons, List.drop_zero, List.drop_nil, List.take_nil, List.cons_append, List.nil_append, List.append_nil, List.set_cons_zero, List.set_cons_succ, List.all_cons, List.all_nil, ↓reduceIte, reduceCtorEq, ge_iff_le, gt_iff_lt, eq_self_iff_true, beq_self_eq_true, beq_iff_eq, bne_iff_ne, ne_eq, ite_not, Int.reduceEq, Option.getD_some, Option.getD_none, ite_self, Nat.reduceAdd, Nat.reduceSub, Nat.reduceMul, Nat.reduceLeDiff, Nat.reduceEqDiff, Nat.reduceBEq, Nat.reduceBNe, Int.reduceLT, Int.reduceLE, Int.reduceAdd, Int.reduceSub, Int.reduceMul, Int.reduceNeg, Int.reduceNe, Int.reduceBEq, Int.reduceBNe, Int.reduceToNat, c0, fail_is]
  rfl
theorem lebU_err {b : List UInt8} {B e : Nat} : ∀ (f i n p : Nat) a w, lebU b B e f i n p = .err a w → w = 3 ∨ w = 4
  | 0, i, n, p, a, w, h => by cases h; exact .inr rfl
  | f + 1, i, n, p, a, w, h => by
    unfold lebU at h
    by_cases h1 : p < e
    · simp only [if_pos h1] at h
      by_cases h2 : B < 7 * i + 7 ∧ (b.getD p 0).toNat / 2 ^ (B - 7 * i) ≠ 0
      · simp only [if_pos h2, Rs.err.injEq] at h; exact .inr h.2.symm
      · simp only [if_neg h2] at h
        by_cases h3 : (b.getD p 0).toNat < 128
        · simp only [if_pos h3] at h; cases h
        · simp only [if_neg h3] at h; exact lebU_err f _ _ _ a w h
    · simp only [if_neg h1, Rs.err.injEq] at h; exact .inl h.2.symm
theorem lebS_err {b : List UInt8} {B e : Nat} : ∀ (f i n p : Nat) a w, lebS b B e f i n p = .err a w → w = 3 ∨ w = 4
  | 0, i, n, p, a, w, h => by cases h; exact .inr rfl
  | f + 1, i, n, p, a, w, h => by
    unfold lebS at h
    by_cases h1 : p < e
    · simp only [if_pos h1] at h
      by_cases h2 : B < 7 * i + 7 ∧ ¬ okS (B - 7 * i) (b.getD p 0).toNat
      · simp only [if_pos h2, Rs.err.injEq] at h; exact .inr h.2.symm
      · simp only [if_neg h2] at h
        by_cases h3 : (b.getD p 0).toNat < 128
        · simp only [if_pos h3] at h; cases h
        · simp only [if_neg h3] at h; exact lebS_err f _ _ _ a w h
    · simp only [if_neg h1, Rs.err.injEq] at h; exact .inl h.2.symm
theorem rdU_err {b : List UInt8} {B e p a w : Nat} (h : rdU b B e p = .err a w) : w ≠ 0 := by have := lebU_err 10 0 0 p a w h; omega
theorem rdS_err {b : List UInt8} {B e p a w : Nat} (h : rdS b B e p = .err a w) : w ≠ 0 := by have := lebS_err 10 0 0 p a w h; omega
def rU32 (b : List UInt8) (p : Nat) : Rs Nat := rdU b 32 b.length p
theorem u32_is {H : Heap} {b : List UInt8} {z : Bool} {c p : Nat} (hH : hget H c = some (curB z b p)) (hb : b.length < 2 ^ 61) (hp : p ≤ b.length) :
    run (C k_entry_cursor_u32 [.ptr c 0]) H = outC z b c H p (fun x : Nat => .int .u32 x) (rU32 b p) := by
  have hid := get_lt hH
  have hset := set_self hH
  have h1 := leb_U32_is (H := H) (b := b) (z := z) (p := p) (Nat.le_refl _) hb hp
  have g1 := fun (q v : Nat) => got_u32_ok (q := q) (v := v) hH
  rw [entry_cursor_u32_eq]
  unfold rU32
  unfold curB at hH
  cases hr : rdU b 32 b.length p with
  | ok v q =>
    rw [hr] at h1
    simp only [retK] at h1
    simp only [outC]
    simp (contextual := true) (dsimp := false) (disch := omega) only [↓goDown, goUp, List.length_cons, List.length_nil, List.map_cons, List.map_nil, List.take_succ_cons, List.take_zero, List.drop_succ_cons, List.drop_zero, List.drop_nil, List.take_nil, List.cons_append, List.nil_append, List.append_nil, List.set_cons_zero, List.set_cons_succ, List.all_cons, List.all_nil, ↓reduceIte, reduceCtorEq, ge_iff_le, gt_iff_lt, eq_self_iff_true, beq_self_eq_true, beq_iff_eq, bne_iff_ne, ne_eq, ite_not, Int.reduceEq, Option.getD_some, Option.getD_none, ite_self, Nat.reduceAdd, Nat.reduceSub, Nat.reduceMul, Nat.reduceLeDiff, Nat.reduceEqDiff, Nat.reduceBEq, Nat.reduceBNe, Int.reduceLT, Int.reduceLE, Int.reduceAdd, Int.reduceSub, Int.reduceMul, Int.reduceNeg, Int.reduceNe, Int.reduceBEq, Int.reduceBNe, Int.reduceToNat, hH, h1, g1, List.length_map]
  | err a w =>
    rw [hr] at h1
    simp only [retK] at h1
    simp only [outC, hset]
    have g2 := fun (u : PV) => got_u32_err (H := H) (r := .ptr c 0) (v := u) (q := a) (rdU_err hr)
    simp (contextual := true) (dsimp := false) (disch := omega) only [↓goDown, goUp, List.length_cons, List.length_nil, List.map_cons, List.map_nil, List.take_succ_cons, List.take_zero, List.drop_succ_cons, List.drop_zero, List.drop_nil, List.take_nil, List.cons_append, List.nil_append, List.append_nil, List.set_cons_zero, List.set_cons_succ, List.all_cons, List.all_nil, ↓reduceIte, reduceCtorEq, ge_iff_le, gt_iff_lt, eq_self_iff_true, beq_self_eq_true, beq_iff_eq, bne_iff_ne, ne_eq, ite_not, Int.reduceEq, Option.getD_some, Option.getD_none, ite_self, Nat.reduceAdd, Nat.reduceSub, Nat.reduceMul, Nat.reduceLeDiff, Nat.reduceEqDiff, Nat.reduceBEq, Nat.reduceBNe, Int.reduceLT, Int.reduceLE, Int.reduceAdd, Int.reduceSub, Int.reduceMul, Int.reduceNeg, Int.reduceNe, Int.reduceBEq, Int.reduceBNe, Int.reduceToNat, hH, h1, g2, List.length_map]
    rfl
def rS33 (b : List UInt8) (p : Nat) : Rs Int :=
  match rdS b 33 b.length p with
  | .ok n q => if n < 0 then .err p 4 else if 2147483647 < n then .err p 2 else .ok n q
  | .err a w => .err a w
theorem s33_is {H : Heap} {b : List UInt8} {z : Bool} {c p : Nat} (hH : hget H c = some (curB z b p)) (hb : b.length < 2 ^ 61) (hp : p ≤ b.length) :
    ∃ q, run (C k_entry_cursor_s33 [.ptr c 0]) H = outC z b c H q (fun x : Int => .int .i64 x) (rS33 b p) := by
  have hid := get_lt hH
  have hset := set_self hH
  have hs' : Pi.hset H c (.cells [BS z b, .int .i64 p]) = H := hset
  have h1 := leb_S33_is (H := H) (b := b) (z := z) (p := p) (Nat.le_refl _) hb hp
  have g1 := fun (q : Nat) (v : Int) => got_i64_ok (q := q) (v := v) hH
  rw [entry_cursor_s33_eq]
  unfold rS33
  unfold curB at hH
  cases hr : rdS b 33 b.length p with
  | ok v q =>
    have hv := rdS_lt hr
    rw [hr] at h1
    simp only [retS] at h1
    refine ⟨q, ?_⟩
    by_cases n1 : v < 0
    · simp only [n1, if_true, outC]
      simp (contextual := true) (dsimp := false) (disch := omega) only [↓goDown, goUp, List.length_cons, List.length_nil, List.map_cons, List.map_nil, List.take_succ_cons, List.take_zero, List.drop_succ_cons, List.drop_zero, List.drop_nil, List.take_nil, List.cons_append, List.nil_append, List.append_nil, List.set_cons_zero, List.set_cons_succ, List.all_cons, List.all_nil, ↓reduceIte, reduceCtorEq, ge_iff_le, gt_iff_lt, eq_self_iff_true, beq_self_eq_true, beq_iff_eq, bne_iff_ne, ne_eq, ite_not, Int.reduceEq, Option.getD_some, Option.getD_none, ite_self, Nat.reduceAdd, Nat.reduceSub, Nat.reduceMul, Nat.reduceLeDiff, Nat.reduceEqDiff, Nat.reduceBEq, Nat.reduceBNe, Int.reduceLT, Int.reduceLE, Int.reduceAdd, Int.reduceSub, Int.reduceMul, Int.reduceNeg, Int.reduceNe, Int.reduceBEq, Int.reduceBNe, Int.reduceToNat, hH, hs', h1, g1, List.length_map, n1, fail_is]
      rfl
    · by_cases n2 : 2147483647 < v
      · simp only [n1, n2, if_true, if_false, outC]
        simp (contextual := true) (dsimp := false) (disch := omega) only [↓goDown, goUp, List.length_cons, List.length_nil, List.map_cons, List.map_nil, List.take_succ_cons, List.take_zero, List.drop_succ_cons, List.drop_zero, List.drop_nil, List.take_nil, List.cons_append, List.nil_append, List.append_nil, List.set_cons_zero, List.set_cons_succ, List.all_cons, List.all_nil, ↓reduceIte, reduceCtorEq, ge_iff_le, gt_iff_lt, eq_self_iff_true, beq_self_eq_true, beq_iff_eq, bne_iff_ne, ne_eq, ite_not, Int.reduceEq, Option.getD_some, Option.getD_none, ite_self, Nat.reduceAdd, Nat.reduceSub, Nat.reduceMul, Nat.reduceLeDiff, Nat.reduceEqDiff, Nat.reduceBEq, Nat.reduceBNe, Int.reduceLT, Int.reduceLE, Int.reduceAdd, Int.reduceSub, Int.reduceMul, Int.reduceNeg, Int.reduceNe, Int.reduceBEq, Int.reduceBNe, Int.reduceToNat, hH, hs', h1, g1, List.length_map, n1, n2, fail_is]
        rfl
      · simp only [n1, n2, if_true, if_false, outC]
        simp (contextual := true) (dsimp := false) (disch := omega) only [↓goDown, goUp, List.length_cons, List.length_nil, List.map_cons, List.map_nil, List.take_succ_cons, List.take_zero, List.drop_succ_cons, List.drop_zero, List.drop_nil, List.take_nil, List.cons_append, List.nil_append, List.append_nil, List.set_cons_zero, List.set_cons_succ, List.all_cons, List.all_nil, ↓reduceIte, reduceCtorEq, ge_iff_le, gt_iff_lt, eq_self_iff_true, beq_self_eq_true, beq_iff_eq, bne_iff_ne, ne_eq, ite_not, Int.reduceEq, Option.getD_some, Option.getD_none, ite_self, Nat.reduceAdd, Nat.reduceSub, Nat.reduceMul, Nat.reduceLeDiff, Nat.reduceEqDiff, Nat.reduceBEq, Nat.reduceBNe, Int.reduceLT, Int.reduceLE, Int.reduceAdd, Int.reduceSub, Int.reduceMul, Int.reduceNeg, Int.reduceNe, Int.reduceBEq, Int.reduceBNe, Int.reduceToNat, hH, hs', h1, g1, List.length_map, n1, n2, p_entry_cursor_s33_11111_eq]
  | err a w =>
    rw [hr] at h1
    simp only [retS] at h1
    refine ⟨p, ?_⟩
    simp only [outC, hset]
    have g2 := fun (u : PV) => got_i64_err (H := H) (r := .ptr c 0) (v := u) (q := a) (rdS_err hr)
    simp (contextual := true) (dsimp := false) (disch := omega) only [↓goDown, goUp, List.length_cons, List.length_nil, List.map_cons, List.map_nil, List.take_succ_cons, List.take_zero, List.drop_succ_cons, List.drop_zero, List.drop_nil, List.take_nil, List.cons_append, List.nil_append, List.append_nil, List.set_cons_zero, List.set_cons_succ, List.all_cons, List.all_nil, ↓reduceIte, reduceCtorEq, ge_iff_le, gt_iff_lt, eq_self_iff_true, beq_self_eq_true, beq_iff_eq, bne_iff_ne, ne_eq, ite_not, Int.reduceEq, Option.getD_some, Option.getD_none, ite_self, Nat.reduceAdd, Nat.reduceSub, Nat.reduceMul, Nat.reduceLeDiff, Nat.reduceEqDiff, Nat.reduceBEq, Nat.reduceBNe, Int.reduceLT, Int.reduceLE, Int.reduceAdd, Int.reduceSub, Int.reduceMul, Int.reduceNeg, Int.reduceNe, Int.reduceBEq, Int.reduceBNe, Int.reduceToNat, hH, hs', h1, g2, List.length_map]
    rfl
/-- The heap type of a byte; 0: it is none. -/
def hname (c : Nat) : Int :=
  if c = 115 then -2 else if c = 114 then -4 else if c = 113 then -10 else if c = 112 then -1 else if c = 111 then -3 else if c = 110 then -5 else if c = 109 then -6 else if c = 108 then -7 else if c = 107 then -8 else if c = 106 then -9 else if c = 105 then -11 else if c = 116 then -12 else 0
theorem abstract_is {H : Heap} : run (C k_entry_abstract []) H = some (.ok (.agg [.int .i64 (-11), .int .i64 (-9), .int .i64 (-8), .int .i64 (-7), .int .i64 (-6), .int .i64 (-5), .int .i64 (-3), .int .i64 (-1), .int .i64 (-10), .int .i64 (-4), .int .i64 (-2), .int .i64 (-12)]) H) := by
  rw [entry_abstract_eq]
  simp (contextual := true) (dsimp := false) (disch := omega) only [↓goDown, goUp, List.length_cons, List.length_nil, List.map_cons, List.map_nil, List.take_succ_cons, List.take_zero, List.drop_succ_cons, List.drop_zero, List.drop_nil, List.take_nil, List.cons_append, List.nil_append, List.append_nil, List.set_cons_zero, List.set_cons_succ, List.all_cons, List.all_nil, ↓reduceIte, reduceCtorEq, ge_iff_le, gt_iff_lt, eq_self_iff_true, beq_self_eq_true, beq_iff_eq, bne_iff_ne, ne_eq, ite_not, Int.reduceEq, Option.getD_some, Option.getD_none, ite_self, Nat.reduceAdd, Nat.reduceSub, Nat.reduceMul, Nat.reduceLeDiff, Nat.reduceEqDiff, Nat.reduceBEq, Nat.reduceBNe, Int.reduceLT, Int.reduceLE, Int.reduceAdd, Int.reduceSub, Int.reduceMul, Int.reduceNeg, Int.reduceNe, Int.reduceBEq, Int.reduceBNe, Int.reduceToNat]
theorem run_ixA {len : Nat} {cs : List PV} {k : IntKind} {n : Int} {H : Heap} : run (ixA len 1 none (.agg cs) (.int k n)) H = if 0 ≤ n ∧ n < len then ldFR H (nth cs n.toNat) else none := by
  unfold run ixA fd
  by_cases h : 0 ≤ n ∧ n < len
  · have h1 : (decide (0 ≤ n) && decide (n < (len : Int))) = true := by simp [h]
    rw [if_pos h]
    simp only [h1, cond_true, Nat.mul_one, nth_is]
    cases nth cs n.toNat <;> rfl
  · have h1 : (decide (0 ≤ n) && decide (n < (len : Int))) = false := by
      rw [Bool.and_eq_false_iff]
      by_cases h0 : 0 ≤ n
      · right; simp; omega
      · left; simp; omega
    rw [if_neg h]
    simp only [h1, cond_false]
    rfl
theorem hname_out {c : Nat} (h : c < 105 ∨ 116 < c) : hname c = 0 := by
  unfold hname
  rw [if_neg (by omega), if_neg (by omega), if_neg (by omega), if_neg (by omega), if_neg (by omega), if_neg (by omega), if_neg (by omega), if_neg (by omega), if_neg (by omega), if_neg (by omega), if_neg (by omega), if_neg (by omega)]
theorem named_is {H : Heap} {c : Nat} (hc : c < 256) : run (C k_entry_named [.int .u8 c]) H = some (.ok (.int .i64 (hname c)) H) := by
  rw [entry_named_eq]
  by_cases h1 : c < 105
  · have c1 : (c : Int) < 105 := by omega
    have : hname c = 0 := hname_out (.inl h1)
    rw [this]
    simp (contextual := true) (dsimp := false) (disch := omega) only [↓goDown, goUp, List.length_cons, List.length_nil, List.map_cons, List.map_nil, List.take_succ_cons, List.take_zero, List.drop_succ_cons, List.drop_zero, List.drop_nil, List.take_nil, List.cons_append, List.nil_append, List.append_nil, List.set_cons_zero, List.set_cons_succ, List.all_cons, List.all_nil, ↓reduceIte, reduceCtorEq, ge_iff_le, gt_iff_lt, eq_self_iff_true, beq_self_eq_true, beq_iff_eq, bne_iff_ne, ne_eq, ite_not, Int.reduceEq, Option.getD_some, Option.getD_none, ite_self, Nat.reduceAdd, Nat.reduceSub, Nat.reduceMul, Nat.reduceLeDiff, Nat.reduceEqDiff, Nat.reduceBEq, Nat.reduceBNe, Int.reduceLT, Int.reduceLE, Int.reduceAdd, Int.reduceSub, Int.reduceMul, Int.reduceNeg, Int.reduceNe, Int.reduceBEq, Int.reduceBNe, Int.reduceToNat, c1]
  · by_cases h2 : 116 < c
    · have c1 : ¬ (c : Int) < 105 := by omega
      have c2 : (116 : Int) < c := by omega
      have : hname c = 0 := hname_out (.inr h2)
      rw [this]
      simp (contextual := true) (dsimp := false) (disch := omega) only [↓goDown, goUp, List.length_cons, List.length_nil, List.map_cons, List.map_nil, List.take_succ_cons, List.take_zero, List.drop_succ_cons, List.drop_zero, List.drop_nil, List.take_nil, List.cons_append, List.nil_append, List.append_nil, List.set_cons_zero, List.set_cons_succ, List.all_cons, List.all_nil, ↓reduceIte, reduceCtorEq, ge_iff_le, gt_iff_lt, eq_self_iff_true, beq_self_eq_true, beq_iff_eq, bne_iff_ne, ne_eq, ite_not, Int.reduceEq, Option.getD_some, Option.getD_none, ite_self, Nat.reduceAdd, Nat.reduceSub, Nat.reduceMul, Nat.reduceLeDiff, Nat.reduceEqDiff, Nat.reduceBEq, Nat.reduceBNe, Int.reduceLT, Int.reduceLE, Int.reduceAdd, Int.reduceSub, Int.reduceMul, Int.reduceNeg, Int.reduceNe, Int.reduceBEq, Int.reduceBNe, Int.reduceToNat, c1, c2]
    · have h : c = 105 ∨ c = 106 ∨ c = 107 ∨ c = 108 ∨ c = 109 ∨ c = 110 ∨ c = 111 ∨ c = 112 ∨ c = 113 ∨ c = 114 ∨ c = 115 ∨ c = 116 := by omega
      rcases h with rfl | rfl | rfl | rfl | rfl | rfl | rfl | rfl | rfl | rfl | rfl | rfl <;>
        simp (contextual := true) (dsimp := false) (disch := omega) only [↓goDown, goUp, List.length_cons, List.length_nil, List.map_cons, List.map_nil, List.take_succ_cons, List.take_zero, List.drop_succ_cons, List.drop_zero, List.drop_nil, List.take_nil, List.cons_append, List.nil_append, List.append_nil, List.set_cons_zero, List.set_cons_succ, List.all_cons, List.all_nil, ↓reduceIte, reduceCtorEq, ge_iff_le, gt_iff_lt, eq_self_iff_true, beq_self_eq_true, beq_iff_eq, bne_iff_ne, ne_eq, ite_not, Int.reduceEq, Option.getD_some, Option.getD_none, ite_self, Nat.reduceAdd, Nat.reduceSub, Nat.reduceMul, Nat.reduceLeDiff, Nat.reduceEqDiff, Nat.reduceBEq, Nat.reduceBNe, Int.reduceLT, Int.reduceLE, Int.reduceAdd, Int.reduceSub, Int.reduceMul, Int.reduceNeg, Int.reduceNe, Int.reduceBEq, Int.reduceBNe, Int.reduceToNat, abstract_is, run_ixA, Int.cast_ofNat_Int, hname] <;> rfl
end Go.Proofs.Ytofbbijagbpicaa.Pi.Q
/- The program's readers of types, on: heap types, references, values, lists, blocks. -/
namespace Go.Proofs.Ytofbbijagbpicaa.Pi.Q
open Go Go.Proofs.Ytofbbijagbpicaa.Pi
set_option linter.unusedVariables false
set_option linter.unusedSimpArgs false
set_option maxRecDepth 100000
attribute [local congr] ite_congr
theorem look_ok {H : Heap} {b : List UInt8} {z : Bool} {c p : Nat} (hH : hget H c = some (curB z b p)) (hb : b.length < 2 ^ 61) (hp : p < b.length) :
    run (C k_entry_cursor_look [.ptr c 0]) H = some (.ok (.int .u8 (b.getD p 0).toNat) H) := by
  rw [look_is hH hb]
  unfold rLook
  rw [if_pos hp]
  simp only [outC, set_self hH]
theorem look_err {H : Heap} {b : List UInt8} {z : Bool} {c p : Nat} (hH : hget H c = some (curB z b p)) (hb : b.length < 2 ^ 61) (hp : ¬ p < b.length) :
    run (C k_entry_cursor_look [.ptr c 0]) H = some (.pan (flt b.length 3) H) := by
  rw [look_is hH hb]
  unfold rLook
  rw [if_neg hp]
  simp only [outC, set_self hH]
def rHeap (b : List UInt8) (p : Nat) : Rs Int :=
  if p < b.length then
    if hname (b.getD p 0).toNat ≠ 0 then .ok (hname (b.getD p 0).toNat) (p + 1) else rS33 b p
  else .err b.length 3
theorem low_flt {n a w : Nat} : (flt a w).low n = true := by simp [flt, low_iface, low_agg, lowL_cons, lowL_nil, low_int]
theorem heap_is {H : Heap} {b : List UInt8} {z : Bool} {c p : Nat} (hH : hget H c = some (curB z b p)) (hb : b.length < 2 ^ 61) (hp : p ≤ b.length) :
    ∃ q, run (C k_entry_cursor_heap [.ptr c 0]) H = outC z b c H q (fun x : Int => .int .i64 x) (rHeap b p) := by
  have hid := get_lt hH
  have hset := set_self hH
  rw [entry_cursor_heap_eq]
  unfold rHeap
  by_cases h1 : p < b.length
  · have hl := look_ok hH hb h1
    have hc := byt_lt (b.getD p 0)
    rw [if_pos h1]
    generalize (b.getD p 0).toNat = x at hl hc ⊢
    have hn := named_is (H := H) hc
    by_cases h2 : hname x = 0
    · obtain ⟨q, hs⟩ := s33_is hH hb hp
      refine ⟨q, ?_⟩
      rw [if_neg (by simpa using h2)]
      cases hr : rS33 b p with
      | ok v q' =>
        rw [hr] at hs
        simp only [outC] at hs ⊢
        simp (contextual := true) (dsimp := false) (disch := omega) only [↓goDown, goUp, List.length_cons, List.length_nil, List.map_cons, List.map_nil, List.take_succ_cons, List.take_zero, List.drop_succ_cons, List.drop_zero, List.drop_nil, List.take_nil, List.cons_append, List.nil_append, List.append_nil, List.set_cons_zero, List.set_cons_succ, List.all_cons, List.all_nil, ↓reduceIte, reduceCtorEq, ge_iff_le, gt_iff_lt, eq_self_iff_true, beq_self_eq_true, beq_iff_eq, bne_iff_ne, ne_eq, ite_not, Int.reduceEq, Option.getD_some, Option.getD_none, ite_self, Nat.reduceAdd, Nat.reduceSub, Nat.reduceMul, Nat.reduceLeDiff, Nat.reduceEqDiff, Nat.reduceBEq, Nat.reduceBNe, Int.reduceLT, Int.reduceLE, Int.reduceAdd, Int.reduceSub, Int.reduceMul, Int.reduceNeg, Int.reduceNe, Int.reduceBEq, Int.reduceBNe, Int.reduceToNat, hl, hn, h2, hs]
      | err a w =>
        rw [hr] at hs
        simp only [outC] at hs ⊢
        simp (contextual := true) (dsimp := false) (disch := omega) only [↓goDown, goUp, List.length_cons, List.length_nil, List.map_cons, List.map_nil, List.take_succ_cons, List.take_zero, List.drop_succ_cons, List.drop_zero, List.drop_nil, List.take_nil, List.cons_append, List.nil_append, List.append_nil, List.set_cons_zero, List.set_cons_succ, List.all_cons, List.all_nil, ↓reduceIte, reduceCtorEq, ge_iff_le, gt_iff_lt, eq_self_iff_true, beq_self_eq_true, beq_iff_eq, bne_iff_ne, ne_eq, ite_not, Int.reduceEq, Option.getD_some, Option.getD_none, ite_self, Nat.reduceAdd, Nat.reduceSub, Nat.reduceMul, Nat.reduceLeDiff, Nat.reduceEqDiff, Nat.reduceBEq, Nat.reduceBNe, Int.reduceLT, Int.reduceLE, Int.reduceAdd, Int.reduceSub, Int.reduceMul, Int.reduceNeg, Int.reduceNe, Int.reduceBEq, Int.reduceBNe, Int.reduceToNat, hl, hn, h2, hs, low_flt]
    · refine ⟨p, ?_⟩
      rw [if_pos (by simpa using h2)]
      simp only [outC]
      unfold curB at hH ⊢
      simp (contextual := true) (dsimp := false) (disch := omega) only [↓goDown, goUp, List.length_cons, List.length_nil, List.map_cons, List.map_nil, List.take_succ_cons, List.take_zero, List.drop_succ_cons, List.drop_zero, List.drop_nil, List.take_nil, List.cons_append, List.nil_append, List.append_nil, List.set_cons_zero, List.set_cons_succ, List.all_cons, List.all_nil, ↓reduceIte, reduceCtorEq, ge_iff_le, gt_iff_lt, eq_self_iff_true, beq_self_eq_true, beq_iff_eq, bne_iff_ne, ne_eq, ite_not, Int.reduceEq, Option.getD_some, Option.getD_none, ite_self, Nat.reduceAdd, Nat.reduceSub, Nat.reduceMul, Nat.reduceLeDiff, Nat.reduceEqDiff, Nat.reduceBEq, Nat.reduceBNe, Int.reduceLT, Int.reduceLE, Int.reduceAdd, Int.reduceSub, Int.reduceMul, Int.reduceNeg, Int.reduceNe, Int.reduceBEq, Int.reduceBNe, Int.reduceToNat, hl, hn, h2, hH]
      rfl
  · refine ⟨p, ?_⟩
    have hl := look_err hH hb h1
    rw [if_neg h1]
    simp only [outC, hset]
    simp (contextual := true) (dsimp := false) (disch := omega) only [↓goDown, goUp, List.length_cons, List.length_nil, List.map_cons, List.map_nil, List.take_succ_cons, List.take_zero, List.drop_succ_cons, List.drop_zero, List.drop_nil, List.take_nil, List.cons_append, List.nil_append, List.append_nil, List.set_cons_zero, List.set_cons_succ, List.all_cons, List.all_nil, ↓reduceIte, reduceCtorEq, ge_iff_le, gt_iff_lt, eq_self_iff_true, beq_self_eq_true, beq_iff_eq, bne_iff_ne, ne_eq, ite_not, Int.reduceEq, Option.getD_some, Option.getD_none, ite_self, Nat.reduceAdd, Nat.reduceSub, Nat.reduceMul, Nat.reduceLeDiff, Nat.reduceEqDiff, Nat.reduceBEq, Nat.reduceBNe, Int.reduceLT, Int.reduceLE, Int.reduceAdd, Int.reduceSub, Int.reduceMul, Int.reduceNeg, Int.reduceNe, Int.reduceBEq, Int.reduceBNe, Int.reduceToNat, hl, low_flt]
/-- A value type. -/
structure VT where
  num : Int
  nul : Bool
  heap : Int
  deriving DecidableEq
def encV (v : VT) : PV := .agg [.int .i64 v.num, .bool v.nul, .int .i64 v.heap]
def rRef (b : List UInt8) (p : Nat) : Rs VT :=
  if p < b.length then
    let x := (b.getD p 0).toNat
    if hname x ≠ 0 then .ok ⟨5, true, hname x⟩ (p + 1)
    else if x ≠ 99 ∧ x ≠ 100 then .err p 4
    else match rHeap b (p + 1) with
      | .ok h q => .ok ⟨5, x == 99, h⟩ q
      | .err a w => .err a w
  else .err b.length 3
theorem ns (p : Nat) : ((p + 1 : Nat) : Int) = (p : Int) + 1 := rfl
theorem ref_is {H : Heap} {b : List UInt8} {z : Bool} {c p : Nat} (hH : hget H c = some (curB z b p)) (hb : b.length < 2 ^ 61) (hp : p ≤ b.length) :
    ∃ q, run (C k_entry_cursor_ref [.ptr c 0]) H = outC z b c H q encV (rRef b p) := by
  have hid := get_lt hH
  have hset := set_self hH
  rw [entry_cursor_ref_eq]
  unfold rRef
  have hH1 : ∀ L, hget (hadd H L) c = some (curB z b p) := fun L => by rw [get_old hid]; exact hH
  by_cases h1 : p < b.length
  · have hl := fun L => look_ok (hH1 L) hb h1
    have hc := byt_lt (b.getD p 0)
    rw [if_pos h1]
    generalize (b.getD p 0).toNat = x at hl hc ⊢
    have hn := fun L => named_is (H := hadd H L) hc
    by_cases h2 : hname x = 0
    · simp only [h2, ne_eq, not_true_eq_false, if_false]
      by_cases h3 : ¬ x = 99 ∧ ¬ x = 100
      · refine ⟨p, ?_⟩
        rw [if_pos h3]
        have c1 : ¬ (x : Int) = 99 := by omega
        have c2 : ¬ (x : Int) = 100 := by omega
        simp only [outC, hset]
        unfold curB at hH
        simp (contextual := true) (dsimp := false) (disch := omega) only [↓goDown, goUp, List.length_cons, List.length_nil, List.map_cons, List.map_nil, List.take_succ_cons, List.take_zero, List.drop_succ_cons, List.drop_zero, List.drop_nil, List.take_nil, List.cons_append, List.nil_append, List.append_nil, List.set_cons_zero, List.set_cons_succ, List.all_cons, List.all_nil, ↓reduceIte, reduceCtorEq, ge_iff_le, gt_iff_lt, eq_self_iff_true, beq_self_eq_true, beq_iff_eq, bne_iff_ne, ne_eq, ite_not, Int.reduceEq, Option.getD_some, Option.getD_none, ite_self, Nat.reduceAdd, Nat.reduceSub, Nat.reduceMul, Nat.reduceLeDiff, Nat.reduceEqDiff, Nat.reduceBEq, Nat.reduceBNe, Int.reduceLT, Int.reduceLE, Int.reduceAdd, Int.reduceSub, Int.reduceMul, Int.reduceNeg, Int.reduceNe, Int.reduceBEq, Int.reduceBNe, Int.reduceToNat, hl, hn, h2, hH, c1, c2, fail_is]
        rfl
      · rw [if_neg h3]
        have hH2 : ∀ L, hget (hadd (Pi.hset H c (curB z b (p + 1))) L) c = some (curB z b (p + 1)) := fun L => by
          rw [get_old1 hid, get_set hid]
        obtain ⟨q, hk⟩ := heap_is (hH2 [.cells [.int .i64 0, .bool false, .int .i64 0]]) hb (by omega)
        refine ⟨q, ?_⟩
        have so : ∀ u L, Pi.hset (hadd (Pi.hset H c (curB z b (p + 1))) L) c (curB z b u) = hadd (Pi.hset H c (curB z b u)) L := fun u L => by
          rw [set_old1 hid, set_set]
        have fin : ∀ (t : Bool), ((x : Int) == 99) = t → (((x : Int) = 99) = (t = true)) → ((x == 99) = t) → (((x : Int) = 99) ∨ ((x : Int) = 100)) →
            truncR H (run (p_entry_cursor_ref_1111 (.ptr c 0) (.ptr H.length 0) (.int .u8 x)) (hadd H [.cells [.int .i64 0, .bool false, .int .i64 0]])) = outC z b c H q encV (match rHeap b (p + 1) with | .ok h q => .ok ⟨5, x == 99, h⟩ q | .err a w => .err a w) := by
          intro t ht ht2 ht3 ho
          rw [ht3]
          cases hr : rHeap b (p + 1) with
          | ok v q' =>
            rw [hr] at hk
            simp only [outC, so] at hk ⊢
            unfold curB at hH hk ⊢
            simp only [ns] at hk
            simp (contextual := true) (dsimp := false) (disch := omega) only [↓goDown, goUp, List.length_cons, List.length_nil, List.map_cons, List.map_nil, List.take_succ_cons, List.take_zero, List.drop_succ_cons, List.drop_zero, List.drop_nil, List.take_nil, List.cons_append, List.nil_append, List.append_nil, List.set_cons_zero, List.set_cons_succ, List.all_cons, List.all_nil, ↓reduceIte, reduceCtorEq, ge_iff_le, gt_iff_lt, eq_self_iff_true, beq_self_eq_true, beq_iff_eq, bne_iff_ne, ne_eq, ite_not, Int.reduceEq, Option.getD_some, Option.getD_none, ite_self, Nat.reduceAdd, Nat.reduceSub, Nat.reduceMul, Nat.reduceLeDiff, Nat.reduceEqDiff, Nat.reduceBEq, Nat.reduceBNe, Int.reduceLT, Int.reduceLE, Int.reduceAdd, Int.reduceSub, Int.reduceMul, Int.reduceNeg, Int.reduceNe, Int.reduceBEq, Int.reduceBNe, Int.reduceToNat, hH, hk, p_entry_cursor_ref_1111_eq, ht]
            rfl
          | err a w =>
            rw [hr] at hk
            simp only [outC, so] at hk ⊢
            unfold curB at hH hk ⊢
            simp only [ns] at hk
            simp (contextual := true) (dsimp := false) (disch := omega) only [↓goDown, goUp, List.length_cons, List.length_nil, List.map_cons, List.map_nil, List.take_succ_cons, List.take_zero, List.drop_succ_cons, List.drop_zero, List.drop_nil, List.take_nil, List.cons_append, List.nil_append, List.append_nil, List.set_cons_zero, List.set_cons_succ, List.all_cons, List.all_nil, ↓reduceIte, reduceCtorEq, ge_iff_le, gt_iff_lt, eq_self_iff_true, beq_self_eq_true, beq_iff_eq, bne_iff_ne, ne_eq, ite_not, Int.reduceEq, Option.getD_some, Option.getD_none, ite_self, Nat.reduceAdd, Nat.reduceSub, Nat.reduceMul, Nat.reduceLeDiff, Nat.reduceEqDiff, Nat.reduceBEq, Nat.reduceBNe, Int.reduceLT, Int.reduceLE, Int.reduceAdd, Int.reduceSub, Int.reduceMul, Int.reduceNeg, Int.reduceNe, Int.reduceBEq, Int.reduceBNe, Int.reduceToNat, hH, hk, p_entry_cursor_ref_1111_eq, ht, low_flt]
        by_cases c1 : x = 99
        · have e1 : ((x : Int) = 99) = True := eq_true (by omega)
          have e2 : ((x : Int) == 99) = true := by simpa using e1
          have e3 : (x == 99) = true := by simpa using c1
          refine Eq.trans ?_ (fin true e2 (by simp [e1]) e3 (.inl (by omega)))
          simp (contextual := true) (dsimp := false) (disch := omega) only [↓goDown, goUp, List.length_cons, List.length_nil, List.map_cons, List.map_nil, List.take_succ_cons, List.take_zero, List.drop_succ_cons, List.drop_zero, List.drop_nil, List.take_nil, List.cons_append, List.nil_append, List.append_nil, List.set_cons_zero, List.set_cons_succ, List.all_cons, List.all_nil, ↓reduceIte, reduceCtorEq, ge_iff_le, gt_iff_lt, eq_self_iff_true, beq_self_eq_true, beq_iff_eq, bne_iff_ne, ne_eq, ite_not, Int.reduceEq, Option.getD_some, Option.getD_none, ite_self, Nat.reduceAdd, Nat.reduceSub, Nat.reduceMul, Nat.reduceLeDiff, Nat.reduceEqDiff, Nat.reduceBEq, Nat.reduceBNe, Int.reduceLT, Int.reduceLE, Int.reduceAdd, Int.reduceSub, Int.reduceMul, Int.reduceNeg, Int.reduceNe, Int.reduceBEq, Int.reduceBNe, Int.reduceToNat, hl, hn, h2, e1]
        · have e1 : ((x : Int) = 99) = False := eq_false (by omega)
          have e2 : ((x : Int) == 99) = false := by simpa using e1
          have e3 : (x == 99) = false := by simpa using c1
          have e4 : ((x : Int) = 100) = True := eq_true (by omega)
          refine Eq.trans ?_ (fin false e2 (by simp [e1]) e3 (.inr (by omega)))
          simp (contextual := true) (dsimp := false) (disch := omega) only [↓goDown, goUp, List.length_cons, List.length_nil, List.map_cons, List.map_nil, List.take_succ_cons, List.take_zero, List.drop_succ_cons, List.drop_zero, List.drop_nil, List.take_nil, List.cons_append, List.nil_append, List.append_nil, List.set_cons_zero, List.set_cons_succ, List.all_cons, List.all_nil, ↓reduceIte, reduceCtorEq, ge_iff_le, gt_iff_lt, eq_self_iff_true, beq_self_eq_true, beq_iff_eq, bne_iff_ne, ne_eq, ite_not, Int.reduceEq, Option.getD_some, Option.getD_none, ite_self, Nat.reduceAdd, Nat.reduceSub, Nat.reduceMul, Nat.reduceLeDiff, Nat.reduceEqDiff, Nat.reduceBEq, Nat.reduceBNe, Int.reduceLT, Int.reduceLE, Int.reduceAdd, Int.reduceSub, Int.reduceMul, Int.reduceNeg, Int.reduceNe, Int.reduceBEq, Int.reduceBNe, Int.reduceToNat, hl, hn, h2, e1, e4]
    · refine ⟨p, ?_⟩
      rw [if_pos (by simpa using h2)]
      simp only [outC]
      unfold curB at hH ⊢
      simp (contextual := true) (dsimp := false) (disch := omega) only [↓goDown, goUp, List.length_cons, List.length_nil, List.map_cons, List.map_nil, List.take_succ_cons, List.take_zero, List.drop_succ_cons, List.drop_zero, List.drop_nil, List.take_nil, List.cons_append, List.nil_append, List.append_nil, List.set_cons_zero, List.set_cons_succ, List.all_cons, List.all_nil, ↓reduceIte, reduceCtorEq, ge_iff_le, gt_iff_lt, eq_self_iff_true, beq_self_eq_true, beq_iff_eq, bne_iff_ne, ne_eq, ite_not, Int.reduceEq, Option.getD_some, Option.getD_none, ite_self, Nat.reduceAdd, Nat.reduceSub, Nat.reduceMul, Nat.reduceLeDiff, Nat.reduceEqDiff, Nat.reduceBEq, Nat.reduceBNe, Int.reduceLT, Int.reduceLE, Int.reduceAdd, Int.reduceSub, Int.reduceMul, Int.reduceNeg, Int.reduceNe, Int.reduceBEq, Int.reduceBNe, Int.reduceToNat, hl, hn, h2, hH, ns]
      rfl
  · refine ⟨p, ?_⟩
    have hl := fun L => look_err (hH1 L) hb h1
    rw [if_neg h1]
    simp only [outC, hset]
    simp (contextual := true) (dsimp := false) (disch := omega) only [↓goDown, goUp, List.length_cons, List.length_nil, List.map_cons, List.map_nil, List.take_succ_cons, List.take_zero, List.drop_succ_cons, List.drop_zero, List.drop_nil, List.take_nil, List.cons_append, List.nil_append, List.append_nil, List.set_cons_zero, List.set_cons_succ, List.all_cons, List.all_nil, ↓reduceIte, reduceCtorEq, ge_iff_le, gt_iff_lt, eq_self_iff_true, beq_self_eq_true, beq_iff_eq, bne_iff_ne, ne_eq, ite_not, Int.reduceEq, Option.getD_some, Option.getD_none, ite_self, Nat.reduceAdd, Nat.reduceSub, Nat.reduceMul, Nat.reduceLeDiff, Nat.reduceEqDiff, Nat.reduceBEq, Nat.reduceBNe, Int.reduceLT, Int.reduceLE, Int.reduceAdd, Int.reduceSub, Int.reduceMul, Int.reduceNeg, Int.reduceNe, Int.reduceBEq, Int.reduceBNe, Int.reduceToNat, hl, low_flt]
end Go.Proofs.Ytofbbijagbpicaa.Pi.Q
/- The program's readers of types, on: values, lists of them, blocks. -/
namespace Go.Proofs.Ytofbbijagbpicaa.Pi.Q
open Go Go.Proofs.Ytofbbijagbpicaa.Pi
set_option linter.unusedVariables false
set_option linter.unusedSimpArgs false
set_option maxRecDepth 100000
attribute [local congr] ite_congr
theorem rS33_le {b : List UInt8} {p q : Nat} {v : Int} (h : rS33 b p = .ok v q) : q ≤ b.length ∧ 0 ≤ v ∧ v ≤ 2147483647 := by
  unfold rS33 at h
  cases hr : rdS b 33 b.length p with
  | ok n q' =>
    rw [hr] at h
    dsimp only at h
    have := rdS_lt hr
    split at h
    · cases h
    · split at h
      · cases h
      · simp only [Rs.ok.injEq] at h
        obtain ⟨rfl, rfl⟩ := h
        omega
  | err a w => rw [hr] at h; cases h
theorem hname_le (c : Nat) : -12 ≤ hname c ∧ hname c ≤ 0 := by
  unfold hname
  repeat' (split; omega)
  omega
theorem rHeap_le {b : List UInt8} {p q : Nat} {v : Int} (h : rHeap b p = .ok v q) : q ≤ b.length ∧ -12 ≤ v ∧ v ≤ 2147483647 := by
  unfold rHeap at h
  split at h
  · split at h
    · simp only [Rs.ok.injEq] at h
      obtain ⟨rfl, rfl⟩ := h
      have := hname_le (b.getD p 0).toNat
      omega
    · have := rS33_le h; omega
  · cases h
theorem rRef_le {b : List UInt8} {p q : Nat} {v : VT} (h : rRef b p = .ok v q) : q ≤ b.length := by
  unfold rRef at h
  split at h
  · dsimp only at h
    split at h
    · simp only [Rs.ok.injEq] at h; omega
    · split at h
      · cases h
      · cases hr : rHeap b (p + 1) with
        | ok n q' => rw [hr] at h; simp only [Rs.ok.injEq] at h; have := rHeap_le hr; omega
        | err a w => rw [hr] at h; cases h
  · cases h
theorem strip_V {v : VT} : strip (encV v) = encV v := nrfl rfl
theorem stripC_V {v : VT} : stripC (encV v) = encV v := nrfl rfl
theorem isTup_V {v : VT} : isTup (encV v) = false := nrfl rfl
theorem isVal_V {v : VT} : isVal (encV v) = true := nrfl rfl
theorem cells_V {v : VT} : (encV v).cells = [.int .i64 v.num, .bool v.nul, .int .i64 v.heap] := nrfl rfl
theorem low_V {v : VT} {n : Nat} : (encV v).low n = true := by simp [encV, low_agg, lowL_cons, lowL_nil, low_int, low_bool]
def rVal (b : List UInt8) (p : Nat) : Rs VT :=
  if p < b.length then
    if (b.getD p 0).toNat = 123 then .err p 8
    else if 124 ≤ (b.getD p 0).toNat ∧ (b.getD p 0).toNat ≤ 127 then .ok ⟨128 - (b.getD p 0).toNat, false, 0⟩ (p + 1)
    else rRef b p
  else .err b.length 3
theorem rVal_le {b : List UInt8} {p q : Nat} {v : VT} (h : rVal b p = .ok v q) : q ≤ b.length := by
  unfold rVal at h
  split at h
  · split at h
    · cases h
    · split at h
      · simp only [Rs.ok.injEq] at h; omega
      · exact rRef_le h
  · cases h
theorem val_is {H : Heap} {b : List UInt8} {z : Bool} {c p : Nat} (hH : hget H c = some (curB z b p)) (hb : b.length < 2 ^ 61) (hp : p ≤ b.length) :
    ∃ q, run (C k_entry_cursor_val [.ptr c 0]) H = outC z b c H q encV (rVal b p) := by
  have hid := get_lt hH
  have hset := set_self hH
  rw [entry_cursor_val_eq]
  unfold rVal
  have hH1 : ∀ L, hget (hadd H L) c = some (curB z b p) := fun L => by rw [get_old hid]; exact hH
  by_cases h1 : p < b.length
  · have hl := fun L => look_ok (hH1 L) hb h1
    have hc := byt_lt (b.getD p 0)
    rw [if_pos h1]
    generalize (b.getD p 0).toNat = x at hl hc ⊢
    by_cases h2 : x = 123
    · refine ⟨p, ?_⟩
      rw [if_pos h2]
      have c1 : (x : Int) = 123 := by omega
      simp only [outC, hset]
      unfold curB at hH
      simp (contextual := true) (dsimp := false) (disch := omega) only [↓goDown, goUp, List.length_cons, List.length_nil, List.map_cons, List.map_nil, List.take_succ_cons, List.take_zero, List.drop_succ_cons, List.drop_zero, List.drop_nil, List.take_nil, List.cons_append, List.nil_append, List.append_nil, List.set_cons_zero, List.set_cons_succ, List.all_cons, List.all_nil, ↓reduceIte, reduceCtorEq, ge_iff_le, gt_iff_lt, eq_self_iff_true, beq_self_eq_true, beq_iff_eq, bne_iff_ne, ne_eq, ite_not, Int.reduceEq, Option.getD_some, Option.getD_none, ite_self, Nat.reduceAdd, Nat.reduceSub, Nat.reduceMul, Nat.reduceLeDiff, Nat.reduceEqDiff, Nat.reduceBEq, Nat.reduceBNe, Int.reduceLT, Int.reduceLE, Int.reduceAdd, Int.reduceSub, Int.reduceMul, Int.reduceNeg, Int.reduceNe, Int.reduceBEq, Int.reduceBNe, Int.reduceToNat, hl, eq_true c1, hH, fail_is]
      rfl
    · rw [if_neg h2]
      have c1 : ¬ (x : Int) = 123 := by omega
      by_cases h3 : 124 ≤ x ∧ x ≤ 127
      · refine ⟨p, ?_⟩
        rw [if_pos h3]
        have c2 : (124 : Int) ≤ x := by omega
        have c3 : (x : Int) ≤ 127 := by omega
        simp only [outC]
        unfold curB at hH ⊢
        simp (contextual := true) (dsimp := false) (disch := omega) only [↓goDown, goUp, List.length_cons, List.length_nil, List.map_cons, List.map_nil, List.take_succ_cons, List.take_zero, List.drop_succ_cons, List.drop_zero, List.drop_nil, List.take_nil, List.cons_append, List.nil_append, List.append_nil, List.set_cons_zero, List.set_cons_succ, List.all_cons, List.all_nil, ↓reduceIte, reduceCtorEq, ge_iff_le, gt_iff_lt, eq_self_iff_true, beq_self_eq_true, beq_iff_eq, bne_iff_ne, ne_eq, ite_not, Int.reduceEq, Option.getD_some, Option.getD_none, ite_self, Nat.reduceAdd, Nat.reduceSub, Nat.reduceMul, Nat.reduceLeDiff, Nat.reduceEqDiff, Nat.reduceBEq, Nat.reduceBNe, Int.reduceLT, Int.reduceLE, Int.reduceAdd, Int.reduceSub, Int.reduceMul, Int.reduceNeg, Int.reduceNe, Int.reduceBEq, Int.reduceBNe, Int.reduceToNat, hl, c1, c2, c3, hH, ns]
        rfl
      · rw [if_neg h3]
        obtain ⟨q, hk⟩ := ref_is (hH1 [.cells [.int .i64 0, .bool false, .int .i64 0]]) hb hp
        refine ⟨q, ?_⟩
        have so : ∀ u L, Pi.hset (hadd H L) c (curB z b u) = hadd (Pi.hset H c (curB z b u)) L := fun u L => by rw [set_old hid]
        have e3 : ((124 : Int) ≤ x) = (124 ≤ x) := by rw [eq_iff_iff]; omega
        have e4 : ((x : Int) ≤ 127) = (x ≤ 127) := by rw [eq_iff_iff]; omega
        by_cases h4 : 124 ≤ x
        · have h5 : ¬ x ≤ 127 := fun h => h3 ⟨h4, h⟩
          cases hr : rRef b p <;> rw [hr] at hk <;> simp only [outC, so] at hk ⊢ <;>
            simp (contextual := true) (dsimp := false) (disch := omega) only [↓goDown, goUp, List.length_cons, List.length_nil, List.map_cons, List.map_nil, List.take_succ_cons, List.take_zero, List.drop_succ_cons, List.drop_zero, List.drop_nil, List.take_nil, List.cons_append, List.nil_append, List.append_nil, List.set_cons_zero, List.set_cons_succ, List.all_cons, List.all_nil, ↓reduceIte, reduceCtorEq, ge_iff_le, gt_iff_lt, eq_self_iff_true, beq_self_eq_true, beq_iff_eq, bne_iff_ne, ne_eq, ite_not, Int.reduceEq, Option.getD_some, Option.getD_none, ite_self, Nat.reduceAdd, Nat.reduceSub, Nat.reduceMul, Nat.reduceLeDiff, Nat.reduceEqDiff, Nat.reduceBEq, Nat.reduceBNe, Int.reduceLT, Int.reduceLE, Int.reduceAdd, Int.reduceSub, Int.reduceMul, Int.reduceNeg, Int.reduceNe, Int.reduceBEq, Int.reduceBNe, Int.reduceToNat, hl, c1, e3, e4, h4, h5, hk, p_entry_cursor_val_111_eq, low_flt, strip_V, isTup_V, cells_V, low_V] <;> rfl
        · cases hr : rRef b p <;> rw [hr] at hk <;> simp only [outC, so] at hk ⊢ <;>
            simp (contextual := true) (dsimp := false) (disch := omega) only [↓goDown, goUp, List.length_cons, List.length_nil, List.map_cons, List.map_nil, List.take_succ_cons, List.take_zero, List.drop_succ_cons, List.drop_zero, List.drop_nil, List.take_nil, List.cons_append, List.nil_append, List.append_nil, List.set_cons_zero, List.set_cons_succ, List.all_cons, List.all_nil, ↓reduceIte, reduceCtorEq, ge_iff_le, gt_iff_lt, eq_self_iff_true, beq_self_eq_true, beq_iff_eq, bne_iff_ne, ne_eq, ite_not, Int.reduceEq, Option.getD_some, Option.getD_none, ite_self, Nat.reduceAdd, Nat.reduceSub, Nat.reduceMul, Nat.reduceLeDiff, Nat.reduceEqDiff, Nat.reduceBEq, Nat.reduceBNe, Int.reduceLT, Int.reduceLE, Int.reduceAdd, Int.reduceSub, Int.reduceMul, Int.reduceNeg, Int.reduceNe, Int.reduceBEq, Int.reduceBNe, Int.reduceToNat, hl, c1, e3, e4, h4, hk, p_entry_cursor_val_111_eq, low_flt, strip_V, isTup_V, cells_V, low_V] <;> rfl
  · refine ⟨p, ?_⟩
    have hl := fun L => look_err (hH1 L) hb h1
    rw [if_neg h1]
    simp only [outC, hset]
    simp (contextual := true) (dsimp := false) (disch := omega) only [↓goDown, goUp, List.length_cons, List.length_nil, List.map_cons, List.map_nil, List.take_succ_cons, List.take_zero, List.drop_succ_cons, List.drop_zero, List.drop_nil, List.take_nil, List.cons_append, List.nil_append, List.append_nil, List.set_cons_zero, List.set_cons_succ, List.all_cons, List.all_nil, ↓reduceIte, reduceCtorEq, ge_iff_le, gt_iff_lt, eq_self_iff_true, beq_self_eq_true, beq_iff_eq, bne_iff_ne, ne_eq, ite_not, Int.reduceEq, Option.getD_some, Option.getD_none, ite_self, Nat.reduceAdd, Nat.reduceSub, Nat.reduceMul, Nat.reduceLeDiff, Nat.reduceEqDiff, Nat.reduceBEq, Nat.reduceBNe, Int.reduceLT, Int.reduceLE, Int.reduceAdd, Int.reduceSub, Int.reduceMul, Int.reduceNeg, Int.reduceNe, Int.reduceBEq, Int.reduceBNe, Int.reduceToNat, hl, low_flt]
/-! ### Lists -/
def rsCons {α : Type} (v : α) : Rs (List α) → Rs (List α)
  | .ok l q => .ok (v :: l) q
  | .err a w => .err a w
def rRep {α : Type} (one : Nat → Rs α) : Nat → Nat → Rs (List α)
  | 0, p => .ok [] p
  | n + 1, p => match one p with
    | .ok v q => rsCons v (rRep one n q)
    | .err a w => .err a w
def rList {α : Type} (b : List UInt8) (most : Nat) (one : Nat → Rs α) (p : Nat) : Rs (List α) :=
  match rU32 b p with
  | .ok n q => if most < n then .err p 2 else rRep one n q
  | .err a w => .err a w
/-- A list that is put together. -/
def accP (sz : Nat) (l : List PV) : PV := match l with | [] => .slice false true 0 [] | l => .slice true false sz l
theorem ap_acc {H : Heap} {sz b : Nat} {l : List PV} {v : PV} {o : Bool} (h : (l.length + 1) * max b 1 ≤ 140737488355328) :
    run (ap true sz b (accP sz l) (.slice o false sz [v])) H = some (.ok (accP sz (l ++ [v])) H) := by
  cases l with
  | nil =>
    unfold accP run ap tail growB
    have h2 : max b 1 ≤ 140737488355328 := by simpa using h
    simp [h2, M.pure]
  | cons x r =>
    unfold accP run ap tail growB
    have h2 : ((x :: r).length + [v].length) * max b 1 ≤ 140737488355328 := by simpa using h
    simp only [beq_self_eq_true, Bool.or_true, cond_true, cond_false, Bool.true_and, decide_eq_true h2]
    rfl
theorem bs_agg {H : Heap} {n : Nat} {cs : List PV} (h1 : flatL cs = true) (h2 : cs.length = n) : run (bs true (some n) [.agg cs]) H = some (.ok (.slice true false n [.agg cs]) H) := by
  unfold run bs isFlatElem
  have : (PV.agg cs).flat = true := by simp only [PV.flat]; exact h1
  simp [stripC, this, h2, M.pure]
theorem isTup_acc {sz : Nat} {l : List PV} : isTup (accP sz l) = false := by unfold accP; split <;> rfl
theorem low_acc {sz n : Nat} {l : List PV} : (accP sz l).low n = true := by unfold accP; split <;> simp [low_slice]
theorem cells_acc {sz : Nat} {l : List PV} : (accP sz l).cells = [accP sz l] := by unfold accP; split <;> rfl
theorem isCell_acc {sz : Nat} {l : List PV} : isCell (accP sz l) = true := by unfold accP; split <;> rfl
theorem valList_loop {b : List UInt8} {z : Bool} (hb : b.length < 2 ^ 61) {one : PV} {c : Nat} {v6 : PV} (hone : ∀ H p, hget H c = some (curB z b p) → p ≤ b.length → ∃ q, run (callV P C (strip one) []) H = outC z b c H q encV (rVal b p)) :
    ∀ (m i n p : Nat) (acc : List VT) (H : Heap), hget H c = some (curB z b p) → p ≤ b.length → n = i + m → acc.length = i → n ≤ 1000000 →
      ∃ q, run (p_entry_list_api_ValType_11111010 one v6 (accP 3 (acc.map encV)) (.int .u32 n) (.int .u32 i)) H = outC z b c H q (fun l => accP 3 ((acc ++ l).map encV)) (rRep (rVal b) m p)
  | 0, i, n, p, acc, H, hH, hp, hn, ha, hm => by
    refine ⟨p, ?_⟩
    rw [p_entry_list_api_ValType_11111010_eq]
    have c1 : ¬ (i : Int) < n := by omega
    have hset := set_self hH
    unfold rRep
    simp only [outC, hset, List.append_nil]
    simp (contextual := true) (dsimp := false) (disch := omega) only [↓goDown, goUp, List.length_cons, List.length_nil, List.map_cons, List.map_nil, List.take_succ_cons, List.take_zero, List.drop_succ_cons, List.drop_zero, List.drop_nil, List.take_nil, List.cons_append, List.nil_append, List.append_nil, List.set_cons_zero, List.set_cons_succ, List.all_cons, List.all_nil, ↓reduceIte, reduceCtorEq, ge_iff_le, gt_iff_lt, eq_self_iff_true, beq_self_eq_true, beq_iff_eq, bne_iff_ne, ne_eq, ite_not, Int.reduceEq, Option.getD_some, Option.getD_none, ite_self, Nat.reduceAdd, Nat.reduceSub, Nat.reduceMul, Nat.reduceLeDiff, Nat.reduceEqDiff, Nat.reduceBEq, Nat.reduceBNe, Int.reduceLT, Int.reduceLE, Int.reduceAdd, Int.reduceSub, Int.reduceMul, Int.reduceNeg, Int.reduceNe, Int.reduceBEq, Int.reduceBNe, Int.reduceToNat, c1, isTup_acc]
  | m + 1, i, n, p, acc, H, hH, hp, hn, ha, hm => by
    rw [p_entry_list_api_ValType_11111010_eq]
    have c1 : (i : Int) < n := by omega
    have hid := get_lt hH
    obtain ⟨q, h1⟩ := hone H p hH hp
    unfold rRep
    cases hr : rVal b p with
    | err a w =>
      rw [hr] at h1
      simp only [outC] at h1
      refine ⟨q, ?_⟩
      simp only [outC]
      simp (contextual := true) (dsimp := false) (disch := omega) only [↓goDown, goUp, List.length_cons, List.length_nil, List.map_cons, List.map_nil, List.take_succ_cons, List.take_zero, List.drop_succ_cons, List.drop_zero, List.drop_nil, List.take_nil, List.cons_append, List.nil_append, List.append_nil, List.set_cons_zero, List.set_cons_succ, List.all_cons, List.all_nil, ↓reduceIte, reduceCtorEq, ge_iff_le, gt_iff_lt, eq_self_iff_true, beq_self_eq_true, beq_iff_eq, bne_iff_ne, ne_eq, ite_not, Int.reduceEq, Option.getD_some, Option.getD_none, ite_self, Nat.reduceAdd, Nat.reduceSub, Nat.reduceMul, Nat.reduceLeDiff, Nat.reduceEqDiff, Nat.reduceBEq, Nat.reduceBNe, Int.reduceLT, Int.reduceLE, Int.reduceAdd, Int.reduceSub, Int.reduceMul, Int.reduceNeg, Int.reduceNe, Int.reduceBEq, Int.reduceBNe, Int.reduceToNat, c1, h1]
    | ok v q' =>
      rw [hr] at h1
      simp only [outC] at h1
      have hl := rVal_le hr
      obtain ⟨q2, h2⟩ := valList_loop hb hone m (i + 1) n q' (acc ++ [v]) (Pi.hset H c (curB z b q')) (get_set hid) hl (by omega) (by simp [ha]) hm
      refine ⟨q2, ?_⟩
      have hbs := fun K => bs_agg (H := K) (n := 3) (cs := [.int .i64 v.num, .bool v.nul, .int .i64 v.heap]) (by simp [flatL, PV.flat]) rfl
      have hbs : ∀ K, run (bs true (some 3) [encV v]) K = some (.ok (.slice true false 3 [encV v]) K) := hbs
      have hap := fun K => ap_acc (H := K) (sz := 3) (b := 24) (l := acc.map encV) (v := encV v) (o := true) (by simp [ha]; omega)
      have e1 : accP 3 (acc.map encV ++ [encV v]) = accP 3 ((acc ++ [v]).map encV) := by simp
      have e2 : (i : Int) + 1 = ((i + 1 : Nat) : Int) := rfl
      rw [e1] at hap
      have hrr : outC z b c (Pi.hset H c (curB z b q')) q2 (fun l => accP 3 ((acc ++ [v] ++ l).map encV)) (rRep (rVal b) m q') = outC z b c H q2 (fun l => accP 3 ((acc ++ l).map encV)) (rsCons v (rRep (rVal b) m q')) := by
        cases rRep (rVal b) m q' <;> simp only [outC, set_set, rsCons] <;> simp
      simp (contextual := true) (dsimp := false) (disch := omega) only [↓goDown, goUp, List.length_cons, List.length_nil, List.map_cons, List.map_nil, List.take_succ_cons, List.take_zero, List.drop_succ_cons, List.drop_zero, List.drop_nil, List.take_nil, List.cons_append, List.nil_append, List.append_nil, List.set_cons_zero, List.set_cons_succ, List.all_cons, List.all_nil, ↓reduceIte, reduceCtorEq, ge_iff_le, gt_iff_lt, eq_self_iff_true, beq_self_eq_true, beq_iff_eq, bne_iff_ne, ne_eq, ite_not, Int.reduceEq, Option.getD_some, Option.getD_none, ite_self, Nat.reduceAdd, Nat.reduceSub, Nat.reduceMul, Nat.reduceLeDiff, Nat.reduceEqDiff, Nat.reduceBEq, Nat.reduceBNe, Int.reduceLT, Int.reduceLE, Int.reduceAdd, Int.reduceSub, Int.reduceMul, Int.reduceNeg, Int.reduceNe, Int.reduceBEq, Int.reduceBNe, Int.reduceToNat, c1, h1, hbs, hap, e2, strip_V, stripC_V, isTup_V, low_V]
      rw [h2]
      exact hrr
theorem rU32_le {b : List UInt8} {p q v : Nat} (h : rU32 b p = .ok v q) : q ≤ b.length ∧ v < 2 ^ 32 := by have := rdU32_lt h; omega
theorem rRep_le {α : Type} {one : Nat → Rs α} {e : Nat} (h1 : ∀ p v q, one p = .ok v q → q ≤ e) : ∀ n p l q, p ≤ e → rRep one n p = .ok l q → q ≤ e ∧ l.length = n
  | 0, p, l, q, hp, h => by unfold rRep at h; cases h; exact ⟨hp, rfl⟩
  | n + 1, p, l, q, hp, h => by
    unfold rRep at h
    cases hr : one p with
    | ok v q1 =>
      rw [hr] at h
      dsimp only at h
      cases hs : rRep one n q1 with
      | ok l2 q2 =>
        rw [hs] at h
        simp only [rsCons, Rs.ok.injEq] at h
        obtain ⟨rfl, rfl⟩ := h
        obtain ⟨a1, a2⟩ := rRep_le h1 n q1 l2 q2 (h1 _ _ _ hr) hs
        exact ⟨a1, by simp [a2]⟩
      | err a w => rw [hs] at h; cases h
    | err a w => rw [hr] at h; cases h
theorem rList_le {α : Type} {b : List UInt8} {most : Nat} {one : Nat → Rs α} (h1 : ∀ p v q, one p = .ok v q → q ≤ b.length) {p : Nat} {l : List α} {q : Nat} (h : rList b most one p = .ok l q) : q ≤ b.length ∧ l.length ≤ most := by
  unfold rList at h
  cases hr : rU32 b p with
  | ok n q1 =>
    rw [hr] at h
    dsimp only at h
    have := rU32_le hr
    split at h
    · cases h
    · obtain ⟨a1, a2⟩ := rRep_le h1 n q1 l q (by omega) h
      exact ⟨a1, by omega⟩
  | err a w => rw [hr] at h; cases h
theorem valList_is {b : List UInt8} {z : Bool} (hb : b.length < 2 ^ 61) {one : PV} {c most : Nat} (hmost : most ≤ 1000000) (hone : ∀ H p, hget H c = some (curB z b p) → p ≤ b.length → ∃ q, run (callV P C (strip one) []) H = outC z b c H q encV (rVal b p))
    {H : Heap} {p : Nat} (hH : hget H c = some (curB z b p)) (hp : p ≤ b.length) :
    ∃ q, run (C k_entry_list_api_ValType [.ptr c 0, .int .u32 most, one]) H = outC z b c H q (fun l => accP 3 (l.map encV)) (rList b most (rVal b) p) := by
  have hid := get_lt hH
  have hset := set_self hH
  have hs' : Pi.hset H c (.cells [BS z b, .int .i64 p]) = H := hset
  have h1 := u32_is hH hb hp
  rw [entry_list_api_ValType_eq]
  unfold rList
  cases hr : rU32 b p with
  | err a w =>
    rw [hr] at h1
    simp only [outC, hset] at h1
    refine ⟨p, ?_⟩
    simp only [outC, hset]
    unfold curB at hH
    simp (contextual := true) (dsimp := false) (disch := omega) only [↓goDown, goUp, List.length_cons, List.length_nil, List.map_cons, List.map_nil, List.take_succ_cons, List.take_zero, List.drop_succ_cons, List.drop_zero, List.drop_nil, List.take_nil, List.cons_append, List.nil_append, List.append_nil, List.set_cons_zero, List.set_cons_succ, List.all_cons, List.all_nil, ↓reduceIte, reduceCtorEq, ge_iff_le, gt_iff_lt, eq_self_iff_true, beq_self_eq_true, beq_iff_eq, bne_iff_ne, ne_eq, ite_not, Int.reduceEq, Option.getD_some, Option.getD_none, ite_self, Nat.reduceAdd, Nat.reduceSub, Nat.reduceMul, Nat.reduceLeDiff, Nat.reduceEqDiff, Nat.reduceBEq, Nat.reduceBNe, Int.reduceLT, Int.reduceLE, Int.reduceAdd, Int.reduceSub, Int.reduceMul, Int.reduceNeg, Int.reduceNe, Int.reduceBEq, Int.reduceBNe, Int.reduceToNat, hH, hs', h1, low_flt]
  | ok n q =>
    have hn := rU32_le hr
    rw [hr] at h1
    simp only [outC] at h1
    have hH2 : hget (Pi.hset H c (curB z b q)) c = some (curB z b q) := get_set hid
    by_cases h2 : most < n
    · refine ⟨q, ?_⟩
      have c1 : (most : Int) < n := by omega
      simp only [h2, if_true, outC]
      unfold curB at hH h1 ⊢
      simp (contextual := true) (dsimp := false) (disch := omega) only [↓goDown, goUp, List.length_cons, List.length_nil, List.map_cons, List.map_nil, List.take_succ_cons, List.take_zero, List.drop_succ_cons, List.drop_zero, List.drop_nil, List.take_nil, List.cons_append, List.nil_append, List.append_nil, List.set_cons_zero, List.set_cons_succ, List.all_cons, List.all_nil, ↓reduceIte, reduceCtorEq, ge_iff_le, gt_iff_lt, eq_self_iff_true, beq_self_eq_true, beq_iff_eq, bne_iff_ne, ne_eq, ite_not, Int.reduceEq, Option.getD_some, Option.getD_none, ite_self, Nat.reduceAdd, Nat.reduceSub, Nat.reduceMul, Nat.reduceLeDiff, Nat.reduceEqDiff, Nat.reduceBEq, Nat.reduceBNe, Int.reduceLT, Int.reduceLE, Int.reduceAdd, Int.reduceSub, Int.reduceMul, Int.reduceNeg, Int.reduceNe, Int.reduceBEq, Int.reduceBNe, Int.reduceToNat, hH, hs', h1, c1, fail_is]
      rfl
    · have c1 : ¬ (most : Int) < n := by omega
      obtain ⟨q2, h3⟩ := valList_loop hb (v6 := .slice false true 0 []) hone n 0 n q [] (Pi.hset H c (curB z b q)) hH2 hn.1 (by omega) rfl (by omega)
      have h3 : run (p_entry_list_api_ValType_11111010 one (.slice false true 0 []) (.slice false true 0 []) (.int .u32 n) (.int .u32 0)) (Pi.hset H c (curB z b q)) = outC z b c (Pi.hset H c (curB z b q)) q2 (fun l => accP 3 (l.map encV)) (rRep (rVal b) n q) := h3
      refine ⟨q2, ?_⟩
      simp only [h2, if_false]
      cases hr2 : rRep (rVal b) n q <;> rw [hr2] at h3 <;> simp only [outC, set_set] at h3 ⊢ <;> unfold curB at hH h1 h3 ⊢ <;>
        simp (contextual := true) (dsimp := false) (disch := omega) only [↓goDown, goUp, List.length_cons, List.length_nil, List.map_cons, List.map_nil, List.take_succ_cons, List.take_zero, List.drop_succ_cons, List.drop_zero, List.drop_nil, List.take_nil, List.cons_append, List.nil_append, List.append_nil, List.set_cons_zero, List.set_cons_succ, List.all_cons, List.all_nil, ↓reduceIte, reduceCtorEq, ge_iff_le, gt_iff_lt, eq_self_iff_true, beq_self_eq_true, beq_iff_eq, bne_iff_ne, ne_eq, ite_not, Int.reduceEq, Option.getD_some, Option.getD_none, ite_self, Nat.reduceAdd, Nat.reduceSub, Nat.reduceMul, Nat.reduceLeDiff, Nat.reduceEqDiff, Nat.reduceBEq, Nat.reduceBNe, Int.reduceLT, Int.reduceLE, Int.reduceAdd, Int.reduceSub, Int.reduceMul, Int.reduceNeg, Int.reduceNe, Int.reduceBEq, Int.reduceBNe, Int.reduceToNat, hH, hs', h1, c1, p_entry_list_api_ValType_1111_eq, h3, low_acc, low_flt, isTup_acc]
def rVals (b : List UInt8) (p : Nat) : Rs (List VT) := rList b 1000 (rVal b) p
def encL (l : List VT) : PV := accP 3 (l.map encV)
theorem vals_is {b : List UInt8} {z : Bool} (hb : b.length < 2 ^ 61) {c : Nat} {H : Heap} {p : Nat} (hH : hget H c = some (curB z b p)) (hp : p ≤ b.length) :
    ∃ q, run (C k_entry_cursor_vals [.ptr c 0]) H = outC z b c H q encL (rVals b p) := by
  rw [entry_cursor_vals_eq]
  obtain ⟨q, h⟩ := valList_is hb (one := .fn k_entry_cursor_val [.ptr c 0] []) (most := 1000) (by omega) (fun H p hH hp => by
    obtain ⟨q, h⟩ := val_is hH hb hp
    exact ⟨q, h⟩) hH hp
  have h : run (C k_entry_list_api_ValType [.ptr c 0, .int .u32 1000, .fn k_entry_cursor_val [.ptr c 0] []]) H = outC z b c H q encL (rVals b p) := h
  refine ⟨q, ?_⟩
  have hmf : ∀ K, run (mf k_entry_cursor_val [.ptr c 0] []) K = some (.ok (.fn k_entry_cursor_val [.ptr c 0] []) K) := fun _ => rfl
  have hl : ∀ l n, (encL l).low n = true := fun _ _ => low_acc
  have ht : ∀ l, isTup (encL l) = false := fun _ => isTup_acc
  cases hr : rVals b p <;> rw [hr] at h <;> simp only [outC] at h ⊢ <;>
    simp (contextual := true) (dsimp := false) (disch := omega) only [↓goDown, goUp, List.length_cons, List.length_nil, List.map_cons, List.map_nil, List.take_succ_cons, List.take_zero, List.drop_succ_cons, List.drop_zero, List.drop_nil, List.take_nil, List.cons_append, List.nil_append, List.append_nil, List.set_cons_zero, List.set_cons_succ, List.all_cons, List.all_nil, ↓reduceIte, reduceCtorEq, ge_iff_le, gt_iff_lt, eq_self_iff_true, beq_self_eq_true, beq_iff_eq, bne_iff_ne, ne_eq, ite_not, Int.reduceEq, Option.getD_some, Option.getD_none, ite_self, Nat.reduceAdd, Nat.reduceSub, Nat.reduceMul, Nat.reduceLeDiff, Nat.reduceEqDiff, Nat.reduceBEq, Nat.reduceBNe, Int.reduceLT, Int.reduceLE, Int.reduceAdd, Int.reduceSub, Int.reduceMul, Int.reduceNeg, Int.reduceNe, Int.reduceBEq, Int.reduceBNe, Int.reduceToNat, hmf, h, low_flt, hl, ht]
/-! ### Blocks -/
structure BK where
  ty : Int
  res : VT
  deriving DecidableEq
def encB (v : BK) : PV := .agg [.int .i64 v.ty, .int .i64 v.res.num, .bool v.res.nul, .int .i64 v.res.heap]
def rBlock (b : List UInt8) (p : Nat) : Rs BK :=
  if p < b.length then
    if (b.getD p 0).toNat = 64 then .ok ⟨-1, ⟨0, false, 0⟩⟩ (p + 1)
    else if 64 < (b.getD p 0).toNat ∧ (b.getD p 0).toNat < 128 then match rVal b p with
      | .ok v q => .ok ⟨-1, v⟩ q
      | .err a w => .err a w
    else match rS33 b p with
      | .ok v q => .ok ⟨v, ⟨0, false, 0⟩⟩ q
      | .err a w => .err a w
  else .err b.length 3
theorem block_is {H : Heap} {b : List UInt8} {z : Bool} {c p : Nat} (hH : hget H c = some (curB z b p)) (hb : b.length < 2 ^ 61) (hp : p ≤ b.length) :
    ∃ q, run (C k_entry_cursor_block [.ptr c 0]) H = outC z b c H q encB (rBlock b p) := by
  have hid := get_lt hH
  have hset := set_self hH
  rw [entry_cursor_block_eq]
  unfold rBlock
  have hH1 : ∀ L, hget (hadd H L) c = some (curB z b p) := fun L => by rw [get_old hid]; exact hH
  have so : ∀ u L, Pi.hset (hadd H L) c (curB z b u) = hadd (Pi.hset H c (curB z b u)) L := fun u L => by rw [set_old hid]
  by_cases h1 : p < b.length
  · have hl := fun L => look_ok (hH1 L) hb h1
    have hc := byt_lt (b.getD p 0)
    rw [if_pos h1]
    generalize (b.getD p 0).toNat = x at hl hc ⊢
    by_cases h2 : x = 64
    · refine ⟨p, ?_⟩
      rw [if_pos h2]
      have c1 : (x : Int) = 64 := by omega
      simp only [outC]
      unfold curB at hH ⊢
      simp (contextual := true) (dsimp := false) (disch := omega) only [↓goDown, goUp, List.length_cons, List.length_nil, List.map_cons, List.map_nil, List.take_succ_cons, List.take_zero, List.drop_succ_cons, List.drop_zero, List.drop_nil, List.take_nil, List.cons_append, List.nil_append, List.append_nil, List.set_cons_zero, List.set_cons_succ, List.all_cons, List.all_nil, ↓reduceIte, reduceCtorEq, ge_iff_le, gt_iff_lt, eq_self_iff_true, beq_self_eq_true, beq_iff_eq, bne_iff_ne, ne_eq, ite_not, Int.reduceEq, Option.getD_some, Option.getD_none, ite_self, Nat.reduceAdd, Nat.reduceSub, Nat.reduceMul, Nat.reduceLeDiff, Nat.reduceEqDiff, Nat.reduceBEq, Nat.reduceBNe, Int.reduceLT, Int.reduceLE, Int.reduceAdd, Int.reduceSub, Int.reduceMul, Int.reduceNeg, Int.reduceNe, Int.reduceBEq, Int.reduceBNe, Int.reduceToNat, hl, eq_true c1, hH, ns]
      rfl
    · rw [if_neg h2]
      have c1 : ¬ (x : Int) = 64 := by omega
      have e3 : ((64 : Int) < x) = (64 < x) := by rw [eq_iff_iff]; omega
      have e4 : ((x : Int) < 128) = (x < 128) := by rw [eq_iff_iff]; omega
      by_cases h3 : 64 < x ∧ x < 128
      · rw [if_pos h3]
        obtain ⟨q, hk⟩ := val_is (hH1 [.cells [.int .i64 0, .int .i64 0, .bool false, .int .i64 0]]) hb hp
        refine ⟨q, ?_⟩
        cases hr : rVal b p <;> rw [hr] at hk <;> simp only [outC, so] at hk ⊢ <;>
          simp (contextual := true) (dsimp := false) (disch := omega) only [↓goDown, goUp, List.length_cons, List.length_nil, List.map_cons, List.map_nil, List.take_succ_cons, List.take_zero, List.drop_succ_cons, List.drop_zero, List.drop_nil, List.take_nil, List.cons_append, List.nil_append, List.append_nil, List.set_cons_zero, List.set_cons_succ, List.all_cons, List.all_nil, ↓reduceIte, reduceCtorEq, ge_iff_le, gt_iff_lt, eq_self_iff_true, beq_self_eq_true, beq_iff_eq, bne_iff_ne, ne_eq, ite_not, Int.reduceEq, Option.getD_some, Option.getD_none, ite_self, Nat.reduceAdd, Nat.reduceSub, Nat.reduceMul, Nat.reduceLeDiff, Nat.reduceEqDiff, Nat.reduceBEq, Nat.reduceBNe, Int.reduceLT, Int.reduceLE, Int.reduceAdd, Int.reduceSub, Int.reduceMul, Int.reduceNeg, Int.reduceNe, Int.reduceBEq, Int.reduceBNe, Int.reduceToNat, hl, c1, e3, e4, h3.1, h3.2, hk, low_flt, strip_V, stripC_V, isTup_V, cells_V, low_V] <;> rfl
      · rw [if_neg h3]
        obtain ⟨q, hk⟩ := s33_is (hH1 [.cells [.int .i64 0, .int .i64 0, .bool false, .int .i64 0]]) hb hp
        refine ⟨q, ?_⟩
        by_cases h4 : 64 < x
        · have h5 : ¬ x < 128 := fun h => h3 ⟨h4, h⟩
          cases hr : rS33 b p <;> rw [hr] at hk <;> simp only [outC, so] at hk ⊢ <;>
            simp (contextual := true) (dsimp := false) (disch := omega) only [↓goDown, goUp, List.length_cons, List.length_nil, List.map_cons, List.map_nil, List.take_succ_cons, List.take_zero, List.drop_succ_cons, List.drop_zero, List.drop_nil, List.take_nil, List.cons_append, List.nil_append, List.append_nil, List.set_cons_zero, List.set_cons_succ, List.all_cons, List.all_nil, ↓reduceIte, reduceCtorEq, ge_iff_le, gt_iff_lt, eq_self_iff_true, beq_self_eq_true, beq_iff_eq, bne_iff_ne, ne_eq, ite_not, Int.reduceEq, Option.getD_some, Option.getD_none, ite_self, Nat.reduceAdd, Nat.reduceSub, Nat.reduceMul, Nat.reduceLeDiff, Nat.reduceEqDiff, Nat.reduceBEq, Nat.reduceBNe, Int.reduceLT, Int.reduceLE, Int.reduceAdd, Int.reduceSub, Int.reduceMul, Int.reduceNeg, Int.reduceNe, Int.reduceBEq, Int.reduceBNe, Int.reduceToNat, hl, c1, e3, e4, h4, h5, hk, low_flt] <;> rfl
        · cases hr : rS33 b p <;> rw [hr] at hk <;> simp only [outC, so] at hk ⊢ <;>
            simp (contextual := true) (dsimp := false) (disch := omega) only [↓goDown, goUp, List.length_cons, List.length_nil, List.map_cons, List.map_nil, List.take_succ_cons, List.take_zero, List.drop_succ_cons, List.drop_zero, List.drop_nil, List.take_nil, List.cons_append, List.nil_append, List.append_nil, List.set_cons_zero, List.set_cons_succ, List.all_cons, List.all_nil, ↓reduceIte, reduceCtorEq, ge_iff_le, gt_iff_lt, eq_self_iff_true, beq_self_eq_true, beq_iff_eq, bne_iff_ne, ne_eq, ite_not, Int.reduceEq, Option.getD_some, Option.getD_none, ite_self, Nat.reduceAdd, Nat.reduceSub, Nat.reduceMul, Nat.reduceLeDiff, Nat.reduceEqDiff, Nat.reduceBEq, Nat.reduceBNe, Int.reduceLT, Int.reduceLE, Int.reduceAdd, Int.reduceSub, Int.reduceMul, Int.reduceNeg, Int.reduceNe, Int.reduceBEq, Int.reduceBNe, Int.reduceToNat, hl, c1, e3, e4, h4, hk, low_flt] <;> rfl
  · refine ⟨p, ?_⟩
    have hl := fun L => look_err (hH1 L) hb h1
    rw [if_neg h1]
    simp only [outC, hset]
    simp (contextual := true) (dsimp := false) (disch := omega) only [↓goDown, goUp, List.length_cons, List.length_nil, List.map_cons, List.map_nil, List.take_succ_cons, List.take_zero, List.drop_succ_cons, List.drop_zero, List.drop_nil, List.take_nil, List.cons_append, List.nil_append, List.append_nil, List.set_cons_zero, List.set_cons_succ, List.all_cons, List.all_nil, ↓reduceIte, reduceCtorEq, ge_iff_le, gt_iff_lt, eq_self_iff_true, beq_self_eq_true, beq_iff_eq, bne_iff_ne, ne_eq, ite_not, Int.reduceEq, Option.getD_some, Option.getD_none, ite_self, Nat.reduceAdd, Nat.reduceSub, Nat.reduceMul, Nat.reduceLeDiff, Nat.reduceEqDiff, Nat.reduceBEq, Nat.reduceBNe, Int.reduceLT, Int.reduceLE, Int.reduceAdd, Int.reduceSub, Int.reduceMul, Int.reduceNeg, Int.reduceNe, Int.reduceBEq, Int.reduceBNe, Int.reduceToNat, hl, low_flt]
end Go.Proofs.Ytofbbijagbpicaa.Pi.Q
