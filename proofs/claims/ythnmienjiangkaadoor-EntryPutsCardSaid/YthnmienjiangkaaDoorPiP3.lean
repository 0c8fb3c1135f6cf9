/- What the law rests on, part 4 of 4: a reading of the program's code over told data, and what it comes to. -/
import Derived.Test.YthnmienjiangkaaDoorPiP2
set_option linter.unusedVariables false
set_option linter.unusedSimpArgs false
set_option maxRecDepth 100000
namespace Go.Proofs.YthnmienjiangkaaDoor.Pi.Q
open Go Go.Proofs.YthnmienjiangkaaDoor.Pi
attribute [local congr] ite_congr
variable {c : Nat} {H : Heap} {L : List Box} {b : List UInt8} {f : Int}
def u79 (v : LT) (s : WS) : GR :=
  (gPut [if v.has then (if v.wide then 5 else 1) else (if v.wide then 4 else 0)] s).bind fun _ s =>
  (gPut (putU v.min.toNat) (gMust (v.wide || decide (v.min < 4294967296)) 4 s)).bind fun _ s =>
  let s := gMust (if v.wide = true ∨ v.max < 4294967296 then (v.has || (v.max == 0)) else false) 4 s
  if v.has = true then gPut (putU v.max.toNat) s else .ok () s
theorem uik {v : LT} (h1 : 0 ≤ v.min ∧ v.min < 18446744073709551616) (h2 : 0 ≤ v.max ∧ v.max < 18446744073709551616) (hc : c < List.length H) : runK c (C u0o [.ptr c 0, .agg [.bool v.wide, .int .u64 v.min, .int .u64 v.max, .bool v.has]]) (St H c (.cells [accB b, .int .i64 f]) L) = outK c H L wB encU (u79 v ⟨b, f⟩) := liftK (fun H hc => by
  obtain ⟨wide, min, max, has⟩ := v
  simp only at h1 h2 ⊢
  have hu1 := fun L b f => guK (c := c) (H := H) (L := L) (b := b) (f := f) (n := min) h1.1 h1.2 hc
  have hu2 := fun L b f => guK (c := c) (H := H) (L := L) (b := b) (f := f) (n := max) h2.1 h2.2 hc
  rw [u44]
  unfold u79
  simp only
  by_cases hm : max < 4294967296
  · unfold gPut at hu1 hu2 ⊢
    cases wide <;> cases has <;>
      simp +contextual -dsimp (disch := omega) only [↓kDown, kUp, ↓goDown, goUp, cr, simprocAttr, hm, bs0, bs1, bs4, bs5, ap_X1, hu1, hu2, gmustK, u25, u22, u0e, u0j, u0v, low_B, Bool.and_self, Bool.true_or, Bool.false_or, Bool.true_and, true_or, false_or, or_true, or_false, WS.eta]
  · have e1 : decide (max < 4294967296) = false := decide_eq_false hm
    unfold gPut at hu1 hu2 ⊢
    cases wide <;> cases has <;>
      simp +contextual -dsimp (disch := omega) only [↓kDown, kUp, ↓goDown, goUp, cr, simprocAttr, hm, e1, bs0, bs1, bs4, bs5, ap_X1, hu1, hu2, gmustK, u25, u22, u0e, u0j, u0v, low_B, Bool.and_self, Bool.true_or, Bool.false_or, Bool.true_and, true_or, false_or, or_true, or_false, WS.eta]) hc
def doneB (b : List UInt8) (f : Int) : Box := if f = 0 then .cells [LZ true 1 (bytes b), .int .i64 f] else .cells [accB b, .int .i64 f]
def doneV (b : List UInt8) (f : Int) : PV := if f = 0 then .tup [accB b, .int .i64 0] else .tup [.slice false true 0 [], .int .i64 f]
theorem ul7 (hc : c < List.length H) : run (C u00 [.ptr c 0]) (St H c (.cells [accB b, .int .i64 f]) L) = some (.ok (doneV b f) (St H c (doneB b f) L)) := by
  rw [u4i, ubf (L := L) hc, ubf (L := L) hc]
  have hc' : c < List.length (hadd H L) := by rw [u4u]; omega
  generalize hadd H L = K at hc'
  unfold doneV doneB
  by_cases h : f = 0
  · subst h
    simp +contextual -dsimp (disch := omega) only [↓kDown, kUp, ↓goDown, goUp, cr, simprocAttr, u0j, u0v, low_B, u2w, u2g]
  · simp +contextual -dsimp (disch := omega) only [↓kDown, kUp, ↓goDown, goUp, cr, simprocAttr, h, u0j, u0v, low_B, u2w, u2g]
theorem St_2 {x y : Box} : hadd H [x, y] = St (hadd H [x, .dead]) (List.length H + 1) y [] := by
  unfold St hadd hset
  rw [List.append_nil, List.set_append_right _ _ (by omega)]
  simp
theorem use_2 {m : M PV} {x y : Box} {r : GR} {s : WS} (h : runK (List.length H + 1) m (St (hadd H [x, .dead]) (List.length H + 1) y []) = outK (List.length H + 1) (hadd H [x, .dead]) [] wB encU r) (hr : r = .ok () s) : run m (hadd H [x, y]) = some (.ok (.tup []) (hadd H [x, wB s])) := by
  subst hr
  rw [← St_2, u87, ← St_2] at h
  exact u9q h
theorem done_2 {x : Box} : run (C u00 [.ptr (List.length H + 1) 0]) (hadd H [x, .cells [accB b, .int .i64 f]]) = some (.ok (doneV b f) (hadd H [x, doneB b f])) := by
  have := ul7 (H := hadd H [x, .dead]) (c := List.length H + 1) (L := []) (b := b) (f := f) (by rw [u4u]; simp)
  rwa [← St_2, ← St_2] at this
theorem u21 (p : PV → Prop) (h1 : p (.tup [accB b, .int .i64 0])) (h2 : p (.tup [.slice false true 0 [], .int .i64 f])) : p (doneV b f) := by
  unfold doneV
  split
  · exact h1
  · exact h2
theorem new2 {x y : Box} : List.length H + 1 < List.length (hadd H [x, y]) := by rw [u4u]; simp
end Go.Proofs.YthnmienjiangkaaDoor.Pi.Q
namespace Go.Proofs.YthnmienjiangkaaDoor.Pi.Q
open Go Go.Proofs.YthnmienjiangkaaDoor.Pi
attribute [local congr] ite_congr
variable {c : Nat} {H : Heap} {L : List Box} {b : List UInt8} {f : Int}
def RT.wide (v : RT) : Prop := ∀ t ∈ v.types, t.wide
end Go.Proofs.YthnmienjiangkaaDoor.Pi.Q
namespace Go.Proofs.YthnmienjiangkaaDoor.Pi.Q
open Go Go.Proofs.YthnmienjiangkaaDoor.Pi
theorem ucx (c : Nat) : Lib.firstT c < 256 := by
  unfold Lib.firstT
  repeat' split
  all_goals omega
attribute [local congr] ite_congr
variable {H : Heap} {z : Bool}
theorem ugp : ∀ c ∈ List.range 256, firstC.drop c = .int .u8 (Lib.firstT c) :: firstC.drop (c + 1) := fun c hc => by
  have hl : firstC.length = 256 := by unfold firstC; rw [List.length_map, List.length_range]
  have h : c < firstC.length := by rw [hl]; exact List.mem_range.mp hc
  rw [List.drop_eq_getElem_cons h]
  congr 1
  simp [firstC]
theorem ukj {c : Nat} (h : c < 256) : run (iaA 256 1 (GT 0) (.int .u8 c)) H = some (.ok (.elem (.int .u8 (Lib.firstT c) :: firstC.drop (c + 1))) H) := by
  rw [GT_0, ← ugp c (List.mem_range.mpr h)]
  unfold run iaA
  have h1 : decide ((0 : Int) ≤ (c : Int)) = true := decide_eq_true (by omega)
  have h2 : decide ((c : Int) < ((256 : Nat) : Int)) = true := decide_eq_true (by omega)
  simp only [h1, h2, Bool.and_self, cond_true, Int.toNat_natCast, Nat.mul_one, M.pure]
theorem ull : ∀ i ∈ List.range 16, accC.drop (i * 2) = .int .u8 (Lib.accLo i) :: .int .u8 (Lib.accHi i) :: accC.drop (i * 2 + 2) := by
  intro i hi
  have h := List.mem_range.mp hi
  have : i = 0 ∨ i = 1 ∨ i = 2 ∨ i = 3 ∨ i = 4 ∨ i = 5 ∨ i = 6 ∨ i = 7 ∨ i = 8 ∨ i = 9 ∨ i = 10 ∨ i = 11 ∨ i = 12 ∨ i = 13 ∨ i = 14 ∨ i = 15 := by omega
  rcases this with rfl | rfl | rfl | rfl | rfl | rfl | rfl | rfl | rfl | rfl | rfl | rfl | rfl | rfl | rfl | rfl <;> rfl
theorem ups {i : Nat} (h : i < 16) : run (iaA 16 2 (GT 1) (.int .u8 i)) H = some (.ok (.elem (.int .u8 (Lib.accLo i) :: .int .u8 (Lib.accHi i) :: accC.drop (i * 2 + 2))) H) := by
  rw [GT_1, ← ull i (List.mem_range.mpr h)]
  unfold run iaA
  have h1 : decide ((0 : Int) ≤ (i : Int)) = true := decide_eq_true (by omega)
  have h2 : decide ((i : Int) < ((16 : Nat) : Int)) = true := decide_eq_true (by omega)
  simp only [h1, h2, Bool.and_self, cond_true, Int.toNat_natCast, M.pure]
theorem and7 : ∀ n ∈ List.range 256, bi .and .none (.int .u8 (n : Nat)) (.int .u8 7) = M.pure (.int .u8 ((n % 8 : Nat) : Int)) := by
  intro n hn
  have h := List.mem_range.mp hn
  rw [ucw]
  have : (BitVec.ofInt IntKind.u8.bits (n : Int) &&& BitVec.ofInt IntKind.u8.bits 7).toNat = n % 8 := by
    rw [BitVec.toNat_and, BitVec.toNat_ofInt, BitVec.toNat_ofInt, show IntKind.u8.bits = 8 from rfl]
    rw [show ((7 : Int) % ((2 ^ 8 : Nat) : Int)).toNat = 2 ^ 3 - 1 from rfl, Nat.and_two_pow_sub_one_eq_mod]
    omega
  rw [this, w_u8 (by omega)]
theorem upg {c : Nat} : bi .and .none (.int .u8 (Lib.firstT c : Nat)) (.int .u8 7) = M.pure (.int .u8 ((Lib.firstT c % 8 : Nat) : Int)) := and7 _ (List.mem_range.mpr (ucx c))
theorem up5 {n : Nat} (h : n < 256) : bi .shr .none (.int .u8 (n : Nat)) (.int .u64 4) = M.pure (.int .u8 ((n / 16 : Nat) : Int)) := by
  rw [uge (by omega), show shiftN .u8 4 = 4 from rfl, Int.fdiv_eq_ediv_of_nonneg _ (by omega)]
  congr 2
def fullN (n c0 c1 c2 : Nat) : Bool :=
  if n = 0 then false else if Lib.firstT c0 % 8 ≤ n then true
  else if 1 < n ∧ (c1 < Lib.accLo (Lib.firstT c0 / 16) ∨ Lib.accHi (Lib.firstT c0 / 16) < c1) then true
  else decide (2 < n ∧ (c2 < 128 ∨ 191 < c2))
def bN (p : List UInt8) (i : Nat) : Nat := (p.getD i 0).toNat
theorem bN_lt {p : List UInt8} {i : Nat} : bN p i < 256 := (p.getD i 0).toNat_lt
theorem iaB {p : List UInt8} {i : Nat} (h : i < p.length) : run (iaS 1 (BS z p) (.int .i64 i)) H = some (.ok (.elem [.int .u8 (bN p i : Nat)]) H) := by
  rw [ugy (by omega), Int.toNat_natCast, uq1 h]
  unfold bN byt
  rw [List.getD_eq_getElem?_getD, List.getElem?_eq_getElem h]
  rfl
end Go.Proofs.YthnmienjiangkaaDoor.Pi.Q
namespace Go.Proofs.YthnmienjiangkaaDoor.Pi.Q
open Go Go.Proofs.YthnmienjiangkaaDoor.Pi
def letN (n c0 c1 c2 c3 : Nat) : Nat :=
  if c0 < 128 then 1 else if 240 ≤ Lib.firstT c0 then 0 else if n < Lib.firstT c0 % 8 then 0
  else if c1 < Lib.accLo (Lib.firstT c0 / 16) ∨ Lib.accHi (Lib.firstT c0 / 16) < c1 then 0 else if Lib.firstT c0 % 8 ≤ 2 then 2
  else if c2 < 128 ∨ 191 < c2 then 0 else if Lib.firstT c0 % 8 ≤ 3 then 3 else if c3 < 128 ∨ 191 < c3 then 0 else 4
theorem udb {c : Nat} (h0 : 128 ≤ c) (h : 240 ≤ Lib.firstT c) : Lib.firstT c = 241 := by
  unfold Lib.firstT at h ⊢
  repeat' split
  all_goals first | rfl | (exfalso; omega) | skip
  all_goals (repeat' split at h) <;> first | rfl | omega
theorem u9z {c : Nat} (h0 : 128 ≤ c) (h : ¬ 240 ≤ Lib.firstT c) : Lib.firstT c % 8 = 2 ∨ Lib.firstT c % 8 = 3 ∨ Lib.firstT c % 8 = 4 := by
  unfold Lib.firstT at h ⊢
  repeat' split
  all_goals first | omega | (exfalso; repeat' split at h) <;> omega
attribute [local congr] ite_congr
variable {H : Heap} {z : Bool}
def letL (p : List UInt8) : Nat := letN p.length (bN p 0) (bN p 1) (bN p 2) (bN p 3)
end Go.Proofs.YthnmienjiangkaaDoor.Pi.Q
namespace Go.Proofs.YthnmienjiangkaaDoor.Pi.Q
open Go Go.Proofs.YthnmienjiangkaaDoor.Pi
theorem ulp {n c0 c1 c2 c3 : Nat} (h0 : 128 ≤ c0) : letN n c0 c1 c2 c3 = (Lib.checkN n c1 c2 c3 (Lib.firstT c0 % 8) (Lib.accLo (Lib.firstT c0 / 16)) (Lib.accHi (Lib.firstT c0 / 16))).getD 0 := by
  unfold letN
  rw [if_neg (by omega)]
  by_cases hx : 240 ≤ Lib.firstT c0
  · rw [if_pos hx, udb h0 hx]
    rfl
  · have hm := u9z h0 hx
    rw [if_neg hx]
    generalize Lib.accLo (Lib.firstT c0 / 16) = lo
    generalize Lib.accHi (Lib.firstT c0 / 16) = hi
    generalize Lib.firstT c0 % 8 = s at *
    unfold Lib.checkN
    rcases hm with rfl | rfl | rfl <;> simp only [Nat.reduceEqDiff, Nat.reduceLeDiff, ↓reduceIte] <;> repeat' split
    all_goals first | rfl | (exfalso; omega)
end Go.Proofs.YthnmienjiangkaaDoor.Pi.Q
namespace Go.Proofs.YthnmienjiangkaaDoor.Pi.Q
open Go Go.Proofs.YthnmienjiangkaaDoor.Pi
def opF (c0 c1 c2 : Nat) : Nat → Nat
  | 0 => 0
  | n + 1 => if n + 1 < 4 ∧ fullN (n + 1) c0 c1 c2 = false then n + 1 else opF c0 c1 c2 n
attribute [local congr] ite_congr
variable {H : Heap} {z : Bool}
def badAt (b : List UInt8) : Nat → Nat → Option Nat
  | 0, _ => none
  | f + 1, a => if a < b.length then (if letL (b.drop a) = 0 then some (a + opF (bN b a) (bN b (a + 1)) (bN b (a + 2)) (min 4 (b.length - a))) else badAt b f (a + letL (b.drop a))) else none
def utfR (o : Option Nat) : PV := match o with | none => .tup [.int .i64 0, .bool true] | some a => .tup [.int .i64 a, .bool false]
theorem upp {b : List UInt8} {a i : Nat} : bN (b.drop a) i = bN b (a + i) := by
  unfold bN
  rw [List.getD_eq_getElem?_getD, List.getD_eq_getElem?_getD, List.getElem?_drop]
theorem u0r {b : List UInt8} : (ByteArray.mk ⟨b⟩).size = b.length := rfl
end Go.Proofs.YthnmienjiangkaaDoor.Pi.Q
namespace Go.Proofs.YthnmienjiangkaaDoor.Pi.Q
open Go Go.Proofs.YthnmienjiangkaaDoor.Pi
attribute [local congr] ite_congr
variable {H : Heap} {z : Bool}
theorem upz {o : Option Nat} {n : Nat} : (utfR o).low n = true := by cases o <;> simp [utfR, ugk, u97, u7x, udc, ucv]
def utfN (b : List UInt8) : Option Nat := badAt b (b.length + 1) 0
end Go.Proofs.YthnmienjiangkaaDoor.Pi.Q
namespace Go.Proofs.YthnmienjiangkaaDoor.Pi.Q
open Go Go.Proofs.YthnmienjiangkaaDoor.Pi
def ltN (c : Nat) : Nat := if c < 128 then 1 else if 194 ≤ c ∧ c ≤ 223 then 2 else if 224 ≤ c ∧ c ≤ 239 then 3 else if 240 ≤ c ∧ c ≤ 244 then 4 else 0
def loR (f k : Nat) : Nat := if k = 1 then (if f = 224 then 160 else if f = 240 then 144 else 128) else 128
def hiR (f k : Nat) : Nat := if k = 1 then (if f = 237 then 159 else if f = 244 then 143 else 191) else 191
def folR (f k c : Nat) : Bool := decide (loR f k ≤ c ∧ c ≤ hiR f k)
theorem unq : ∀ c ∈ List.range 256, ltN c = (if c < 128 then 1 else if 240 ≤ Lib.firstT c then 0 else Lib.firstT c % 8) ∧ (128 ≤ c → ¬ 240 ≤ Lib.firstT c → Lib.accLo (Lib.firstT c / 16) = loR c 1 ∧ Lib.accHi (Lib.firstT c / 16) = hiR c 1) := by decide +kernel
def goR (b : List UInt8) (a n : Nat) : Nat → Nat → Option Nat
  | 0, _ => none
  | f + 1, k => if k < n then (if b.length ≤ a + k then some b.length else if folR (bN b a) k (bN b (a + k)) = false then some (a + k) else goR b a n f (k + 1)) else none
def badR (b : List UInt8) : Nat → Nat → Option Nat
  | 0, _ => none
  | f + 1, a => if a < b.length then (if ltN (bN b a) = 0 then some a else match goR b a (ltN (bN b a)) 5 1 with | some x => some x | none => badR b f (a + ltN (bN b a))) else none
theorem udh {n c0 c1 c2 : Nat} (h0 : n ≠ 0) : fullN n c0 c1 c2 = false ↔ (n < Lib.firstT c0 % 8 ∧ (1 < n → Lib.accLo (Lib.firstT c0 / 16) ≤ c1 ∧ c1 ≤ Lib.accHi (Lib.firstT c0 / 16)) ∧ (2 < n → 128 ≤ c2 ∧ c2 ≤ 191)) := by
  unfold fullN
  rw [if_neg h0]
  by_cases h1 : Lib.firstT c0 % 8 ≤ n
  · rw [if_pos h1]; simp; omega
  · rw [if_neg h1]
    by_cases h2 : 1 < n ∧ (c1 < Lib.accLo (Lib.firstT c0 / 16) ∨ Lib.accHi (Lib.firstT c0 / 16) < c1)
    · rw [if_pos h2]; simp; omega
    · rw [if_neg h2, decide_eq_false_iff_not]
      omega
theorem opF_is {c0 c1 c2 m : Nat} (hm : m ≤ 4) : opF c0 c1 c2 m = if m = 0 ∨ Lib.firstT c0 % 8 ≤ 1 then 0 else if m = 1 ∨ Lib.firstT c0 % 8 ≤ 2 ∨ c1 < Lib.accLo (Lib.firstT c0 / 16) ∨ Lib.accHi (Lib.firstT c0 / 16) < c1 then 1
    else if m = 2 ∨ Lib.firstT c0 % 8 ≤ 3 ∨ c2 < 128 ∨ 191 < c2 then 2 else 3 := by
  have n1 := udh (n := 1) (c0 := c0) (c1 := c1) (c2 := c2) (by decide)
  have n2 := udh (n := 2) (c0 := c0) (c1 := c1) (c2 := c2) (by decide)
  have n3 := udh (n := 3) (c0 := c0) (c1 := c1) (c2 := c2) (by decide)
  generalize fullN 1 c0 c1 c2 = f1 at *
  have hx := ucx c0
  have h : m = 0 ∨ m = 1 ∨ m = 2 ∨ m = 3 ∨ m = 4 := by omega
  have u0 : opF c0 c1 c2 0 = 0 := rfl
  have u1 : opF c0 c1 c2 1 = if fullN 1 c0 c1 c2 = false then 1 else 0 := by rw [opF]; simp [u0]
  have u2 : opF c0 c1 c2 2 = if fullN 2 c0 c1 c2 = false then 2 else opF c0 c1 c2 1 := by rw [opF]; simp
  have u3 : opF c0 c1 c2 3 = if fullN 3 c0 c1 c2 = false then 3 else opF c0 c1 c2 2 := by rw [opF]; simp
  have u4 : opF c0 c1 c2 4 = opF c0 c1 c2 3 := by rw [opF]; simp
  have n1' := udh (n := 1) (c0 := c0) (c1 := c1) (c2 := c2) (by decide)
  generalize Lib.accLo (Lib.firstT c0 / 16) = lo at *
  generalize Lib.accHi (Lib.firstT c0 / 16) = hi at *
  generalize Lib.firstT c0 % 8 = s at *
  rcases h with rfl | rfl | rfl | rfl | rfl
  · rw [u0, if_pos (.inl rfl)]
  · rw [u1]
    by_cases g : fullN 1 c0 c1 c2 = false
    · rw [if_pos g, if_neg (by have := n1'.mp g; omega), if_pos (.inl rfl)]
    · rw [if_neg g, if_pos (Classical.byContradiction fun q => g (n1'.mpr (by omega)))]
  · rw [u2, u1]
    by_cases g : fullN 2 c0 c1 c2 = false
    · have := n2.mp g
      rw [if_pos g, if_neg (by omega), if_neg (by omega), if_pos (by omega)]
    · have q2 : ¬ _ := fun q => g (n2.mpr q)
      rw [if_neg g]
      by_cases g1 : fullN 1 c0 c1 c2 = false
      · have := n1'.mp g1
        rw [if_pos g1, if_neg (by omega), if_pos (by omega)]
      · have q1 : ¬ _ := fun q => g1 (n1'.mpr q)
        rw [if_neg g1, if_pos (by omega)]
  · rw [u3, u2, u1]
    by_cases g3 : fullN 3 c0 c1 c2 = false
    · have := n3.mp g3
      rw [if_pos g3, if_neg (by omega), if_neg (by omega), if_neg (by omega)]
    · have q3 : ¬ _ := fun q => g3 (n3.mpr q)
      rw [if_neg g3]
      by_cases g : fullN 2 c0 c1 c2 = false
      · have := n2.mp g
        rw [if_pos g, if_neg (by omega), if_neg (by omega), if_pos (by omega)]
      · have q2 : ¬ _ := fun q => g (n2.mpr q)
        rw [if_neg g]
        by_cases g1 : fullN 1 c0 c1 c2 = false
        · have := n1'.mp g1
          rw [if_pos g1, if_neg (by omega), if_pos (by omega)]
        · have q1 : ¬ _ := fun q => g1 (n1'.mpr q)
          rw [if_neg g1, if_pos (by omega)]
  · rw [u4, u3, u2, u1]
    by_cases g3 : fullN 3 c0 c1 c2 = false
    · have := n3.mp g3
      rw [if_pos g3, if_neg (by omega), if_neg (by omega), if_neg (by omega)]
    · have q3 : ¬ _ := fun q => g3 (n3.mpr q)
      rw [if_neg g3]
      by_cases g : fullN 2 c0 c1 c2 = false
      · have := n2.mp g
        rw [if_pos g, if_neg (by omega), if_neg (by omega), if_pos (by omega)]
      · have q2 : ¬ _ := fun q => g (n2.mpr q)
        rw [if_neg g]
        by_cases g1 : fullN 1 c0 c1 c2 = false
        · have := n1'.mp g1
          rw [if_pos g1, if_neg (by omega), if_pos (by omega)]
        · have q1 : ¬ _ := fun q => g1 (n1'.mpr q)
          rw [if_neg g1, if_pos (by omega)]
end Go.Proofs.YthnmienjiangkaaDoor.Pi.Q
namespace Go.Proofs.YthnmienjiangkaaDoor.Pi.Q
open Go Go.Proofs.YthnmienjiangkaaDoor.Pi
theorem fol_no {f k c : Nat} : folR f k c = false ↔ c < loR f k ∨ hiR f k < c := by
  unfold folR
  rw [decide_eq_false_iff_not]
  omega
theorem lo_2 {f k : Nat} (h : k ≠ 1) : loR f k = 128 := by unfold loR; rw [if_neg h]
theorem hi_2 {f k : Nat} (h : k ≠ 1) : hiR f k = 191 := by unfold hiR; rw [if_neg h]
theorem goR_s {b : List UInt8} {a n f k : Nat} : goR b a n (f + 1) k = if k < n then (if b.length ≤ a + k then some b.length else if folR (bN b a) k (bN b (a + k)) = false then some (a + k) else goR b a n f (k + 1)) else none := rfl
theorem go_2 {b : List UInt8} {a : Nat} : goR b a 2 5 1 = if b.length ≤ a + 1 then some b.length else if folR (bN b a) 1 (bN b (a + 1)) = false then some (a + 1) else none := by
  rw [goR_s, if_pos (show 1 < 2 by decide), show goR b a 2 4 (1 + 1) = none from by rw [goR_s, if_neg (show ¬ 1 + 1 < 2 by decide)]]
theorem go_3 {b : List UInt8} {a : Nat} : goR b a 3 5 1 = if b.length ≤ a + 1 then some b.length else if folR (bN b a) 1 (bN b (a + 1)) = false then some (a + 1) else if b.length ≤ a + 2 then some b.length else if folR (bN b a) 2 (bN b (a + 2)) = false then some (a + 2) else none := by
  rw [goR_s, if_pos (show 1 < 3 by decide)]
  rw [show goR b a 3 4 (1 + 1) = if b.length ≤ a + 2 then some b.length else if folR (bN b a) 2 (bN b (a + 2)) = false then some (a + 2) else none from by
    rw [goR_s, if_pos (show 1 + 1 < 3 by decide), show goR b a 3 3 (1 + 1 + 1) = none from by rw [goR_s, if_neg (show ¬ 1 + 1 + 1 < 3 by decide)]]]
theorem go_4 {b : List UInt8} {a : Nat} : goR b a 4 5 1 = if b.length ≤ a + 1 then some b.length else if folR (bN b a) 1 (bN b (a + 1)) = false then some (a + 1) else if b.length ≤ a + 2 then some b.length else if folR (bN b a) 2 (bN b (a + 2)) = false then some (a + 2) else if b.length ≤ a + 3 then some b.length else if folR (bN b a) 3 (bN b (a + 3)) = false then some (a + 3) else none := by
  rw [goR_s, if_pos (show 1 < 4 by decide)]
  rw [show goR b a 4 4 (1 + 1) = if b.length ≤ a + 2 then some b.length else if folR (bN b a) 2 (bN b (a + 2)) = false then some (a + 2) else if b.length ≤ a + 3 then some b.length else if folR (bN b a) 3 (bN b (a + 3)) = false then some (a + 3) else none from by
    rw [goR_s, if_pos (show 1 + 1 < 4 by decide)]
    rw [show goR b a 4 3 (1 + 1 + 1) = if b.length ≤ a + 3 then some b.length else if folR (bN b a) 3 (bN b (a + 3)) = false then some (a + 3) else none from by
      rw [goR_s, if_pos (show 1 + 1 + 1 < 4 by decide), show goR b a 4 2 (1 + 1 + 1 + 1) = none from by rw [goR_s, if_neg (show ¬ 1 + 1 + 1 + 1 < 4 by decide)]]]]
theorem fin0 {G : Option Nat} {a x V O s k : Nat} (hs : s ≠ 0) (h1 : G = some x) (h2 : V = 0) (h3 : O = k) (h4 : x = a + k) : (if s = 0 then some a else G) = (if V = 0 then some (a + O) else none) ∧ (V ≠ 0 → V = s) := by
  rw [if_neg hs, if_pos h2, h1, h3, h4]
  exact ⟨rfl, fun h => absurd h2 h⟩
theorem fin1 {G : Option Nat} {a V O s : Nat} (hs : s ≠ 0) (h1 : G = none) (h2 : V = s) : (if s = 0 then some a else G) = (if V = 0 then some (a + O) else none) ∧ (V ≠ 0 → V = s) := by
  rw [if_neg hs, if_neg (by omega), h1]
  exact ⟨rfl, fun _ => h2⟩
theorem upx {b : List UInt8} {a : Nat} (ha : a < b.length) :
    (if ltN (bN b a) = 0 then some a else goR b a (ltN (bN b a)) 5 1) = (if letL (b.drop a) = 0 then some (a + opF (bN b a) (bN b (a + 1)) (bN b (a + 2)) (min 4 (b.length - a))) else none) ∧ (letL (b.drop a) ≠ 0 → letL (b.drop a) = ltN (bN b a)) := by
  have hm : min 4 (b.length - a) ≤ 4 := by omega
  rw [opF_is hm]
  unfold letL
  simp only [upp, List.length_drop, Nat.add_zero]
  obtain ⟨h1, h2⟩ := unq (bN b a) (List.mem_range.mpr bN_lt)
  unfold letN
  by_cases h0 : bN b a < 128
  · rw [if_pos h0] at h1
    rw [h1, if_pos h0]
    exact ⟨rfl, fun _ => rfl⟩
  · rw [if_neg h0] at h1 ⊢
    by_cases hx : 240 ≤ Lib.firstT (bN b a)
    · rw [if_pos hx] at h1
      rw [h1, if_pos hx, udb (by omega) hx]
      simp
    · obtain ⟨l1, l2⟩ := h2 (by omega) hx
      rw [if_neg hx] at h1
      have hs := u9z (by omega) hx
      rw [if_neg hx, l1, l2, h1]
      have g1 := fol_no (f := bN b a) (k := 1) (c := bN b (a + 1))
      have g2 := fol_no (f := bN b a) (k := 2) (c := bN b (a + 2))
      have g3 := fol_no (f := bN b a) (k := 3) (c := bN b (a + 3))
      rw [lo_2 (by decide), hi_2 (by decide)] at g2 g3
      generalize loR (bN b a) 1 = lo at *
      generalize hiR (bN b a) 1 = hi at *
      have g20 := go_2 (b := b) (a := a)
      have g30 := go_3 (b := b) (a := a)
      have g40 := go_4 (b := b) (a := a)
      generalize b.length = L at *
      generalize folR (bN b a) 1 (bN b (a + 1)) = k1 at *
      generalize folR (bN b a) 2 (bN b (a + 2)) = k2 at *
      generalize folR (bN b a) 3 (bN b (a + 3)) = k3 at *
      generalize bN b (a + 1) = c1 at *
      generalize bN b (a + 2) = c2 at *
      generalize bN b (a + 3) = c3 at *
      clear h2 l1 l2
      generalize Lib.firstT (bN b a) % 8 = s at *
      clear h1 hx h0
      rcases hs with rfl | rfl | rfl
      · by_cases n1 : L ≤ a + 1
        · exact fin0 (x := L) (k := 1) (by decide) (by rw [g20, if_pos n1]) (by (repeat' split); all_goals omega) (by (repeat' split); all_goals omega) (by omega)
        · by_cases q1 : c1 < lo ∨ hi < c1
          · exact fin0 (x := a + 1) (k := 1) (by decide) (by rw [g20, if_neg n1, if_pos (g1.mpr q1)]) (by (repeat' split); all_goals omega) (by (repeat' split); all_goals omega) (by omega)
          · exact fin1 (by decide) (by rw [g20, if_neg n1, if_neg (fun h => q1 (g1.mp h))]) (by (repeat' split); all_goals omega)
      · by_cases n1 : L ≤ a + 1
        · exact fin0 (x := L) (k := 1) (by decide) (by rw [g30, if_pos n1]) (by (repeat' split); all_goals omega) (by (repeat' split); all_goals omega) (by omega)
        · by_cases q1 : c1 < lo ∨ hi < c1
          · exact fin0 (x := a + 1) (k := 1) (by decide) (by rw [g30, if_neg n1, if_pos (g1.mpr q1)]) (by (repeat' split); all_goals omega) (by (repeat' split); all_goals omega) (by omega)
          · skip
            by_cases n2 : L ≤ a + 2
            · exact fin0 (x := L) (k := 2) (by decide) (by rw [g30, if_neg n1, if_neg (fun h => q1 (g1.mp h)), if_pos n2]) (by (repeat' split); all_goals omega) (by (repeat' split); all_goals omega) (by omega)
            · by_cases q2 : c2 < 128 ∨ 191 < c2
              · exact fin0 (x := a + 2) (k := 2) (by decide) (by rw [g30, if_neg n1, if_neg (fun h => q1 (g1.mp h)), if_neg n2, if_pos (g2.mpr q2)]) (by (repeat' split); all_goals omega) (by (repeat' split); all_goals omega) (by omega)
              · exact fin1 (by decide) (by rw [g30, if_neg n1, if_neg (fun h => q1 (g1.mp h)), if_neg n2, if_neg (fun h => q2 (g2.mp h))]) (by (repeat' split); all_goals omega)
      · by_cases n1 : L ≤ a + 1
        · exact fin0 (x := L) (k := 1) (by decide) (by rw [g40, if_pos n1]) (by (repeat' split); all_goals omega) (by (repeat' split); all_goals omega) (by omega)
        · by_cases q1 : c1 < lo ∨ hi < c1
          · exact fin0 (x := a + 1) (k := 1) (by decide) (by rw [g40, if_neg n1, if_pos (g1.mpr q1)]) (by (repeat' split); all_goals omega) (by (repeat' split); all_goals omega) (by omega)
          · skip
            by_cases n2 : L ≤ a + 2
            · exact fin0 (x := L) (k := 2) (by decide) (by rw [g40, if_neg n1, if_neg (fun h => q1 (g1.mp h)), if_pos n2]) (by (repeat' split); all_goals omega) (by (repeat' split); all_goals omega) (by omega)
            · by_cases q2 : c2 < 128 ∨ 191 < c2
              · exact fin0 (x := a + 2) (k := 2) (by decide) (by rw [g40, if_neg n1, if_neg (fun h => q1 (g1.mp h)), if_neg n2, if_pos (g2.mpr q2)]) (by (repeat' split); all_goals omega) (by (repeat' split); all_goals omega) (by omega)
              · skip
                by_cases n3 : L ≤ a + 3
                · exact fin0 (x := L) (k := 3) (by decide) (by rw [g40, if_neg n1, if_neg (fun h => q1 (g1.mp h)), if_neg n2, if_neg (fun h => q2 (g2.mp h)), if_pos n3]) (by (repeat' split); all_goals omega) (by (repeat' split); all_goals omega) (by omega)
                · by_cases q3 : c3 < 128 ∨ 191 < c3
                  · exact fin0 (x := a + 3) (k := 3) (by decide) (by rw [g40, if_neg n1, if_neg (fun h => q1 (g1.mp h)), if_neg n2, if_neg (fun h => q2 (g2.mp h)), if_neg n3, if_pos (g3.mpr q3)]) (by (repeat' split); all_goals omega) (by (repeat' split); all_goals omega) (by omega)
                  · exact fin1 (by decide) (by rw [g40, if_neg n1, if_neg (fun h => q1 (g1.mp h)), if_neg n2, if_neg (fun h => q2 (g2.mp h)), if_neg n3, if_neg (fun h => q3 (g3.mp h))]) (by (repeat' split); all_goals omega)
theorem uiq {b : List UInt8} : ∀ (f a : Nat), badR b f a = badAt b f a
  | 0, a => rfl
  | f + 1, a => by
    rw [badR, badAt]
    by_cases ha : a < b.length
    · rw [if_pos ha, if_pos ha]
      obtain ⟨h1, h2⟩ := upx ha
      by_cases h0 : letL (b.drop a) = 0
      · rw [if_pos h0] at h1 ⊢
        by_cases hz : ltN (bN b a) = 0
        · rw [if_pos hz] at h1 ⊢
          exact h1
        · rw [if_neg hz] at h1 ⊢
          rw [h1]
      · rw [if_neg h0] at h1 ⊢
        have e := h2 h0
        have hz : ¬ ltN (bN b a) = 0 := by rw [← e]; exact h0
        rw [if_neg hz] at h1 ⊢
        rw [h1, e]
        exact uiq f _
    · rw [if_neg ha, if_neg ha]
end Go.Proofs.YthnmienjiangkaaDoor.Pi.Q
namespace Go.Proofs.YthnmienjiangkaaDoor.Pi.Q
open Go Go.Proofs.YthnmienjiangkaaDoor.Pi
attribute [local congr] ite_congr
variable {H : Heap} {z : Bool}
theorem ukh {n : Nat} (h : n < 256) : run (C u37 [.int .u8 n]) H = some (.ok (.int .i64 (ltN n : Nat)) H) := by
  rw [u5z]
  have hc : n < 128 ∨ (128 ≤ n ∧ n < 194) ∨ (194 ≤ n ∧ n ≤ 223) ∨ (224 ≤ n ∧ n ≤ 239) ∨ (240 ≤ n ∧ n ≤ 244) ∨ 244 < n := by omega
  rcases hc with q | q | q | q | q | q
  · have e : ltN n = 1 := by unfold ltN; (repeat' split) <;> omega
    rw [e]
    have t0 : ((n : Int) < 128) = True := eq_true (by omega)
    have t1 : ((194 : Int) ≤ (n : Int)) = False := eq_false (by omega)
    have t2 : ((n : Int) ≤ 223) = True := eq_true (by omega)
    have t3 : ((224 : Int) ≤ (n : Int)) = False := eq_false (by omega)
    have t4 : ((n : Int) ≤ 239) = True := eq_true (by omega)
    have t5 : ((240 : Int) ≤ (n : Int)) = False := eq_false (by omega)
    have t6 : ((n : Int) ≤ 244) = True := eq_true (by omega)
    simp +contextual -dsimp (disch := omega) only [↓goDown, goUp, cr, simprocAttr, t0, t1, t2, t3, t4, t5, t6]
  · have e : ltN n = 0 := by unfold ltN; (repeat' split) <;> omega
    rw [e]
    have t0 : ((n : Int) < 128) = False := eq_false (by omega)
    have t1 : ((194 : Int) ≤ (n : Int)) = False := eq_false (by omega)
    have t2 : ((n : Int) ≤ 223) = True := eq_true (by omega)
    have t3 : ((224 : Int) ≤ (n : Int)) = False := eq_false (by omega)
    have t4 : ((n : Int) ≤ 239) = True := eq_true (by omega)
    have t5 : ((240 : Int) ≤ (n : Int)) = False := eq_false (by omega)
    have t6 : ((n : Int) ≤ 244) = True := eq_true (by omega)
    simp +contextual -dsimp (disch := omega) only [↓goDown, goUp, cr, simprocAttr, t0, t1, t2, t3, t4, t5, t6]
  · have e : ltN n = 2 := by unfold ltN; (repeat' split) <;> omega
    rw [e]
    have t0 : ((n : Int) < 128) = False := eq_false (by omega)
    have t1 : ((194 : Int) ≤ (n : Int)) = True := eq_true (by omega)
    have t2 : ((n : Int) ≤ 223) = True := eq_true (by omega)
    have t3 : ((224 : Int) ≤ (n : Int)) = False := eq_false (by omega)
    have t4 : ((n : Int) ≤ 239) = True := eq_true (by omega)
    have t5 : ((240 : Int) ≤ (n : Int)) = False := eq_false (by omega)
    have t6 : ((n : Int) ≤ 244) = True := eq_true (by omega)
    simp +contextual -dsimp (disch := omega) only [↓goDown, goUp, cr, simprocAttr, t0, t1, t2, t3, t4, t5, t6]
  · have e : ltN n = 3 := by unfold ltN; (repeat' split) <;> omega
    rw [e]
    have t0 : ((n : Int) < 128) = False := eq_false (by omega)
    have t1 : ((194 : Int) ≤ (n : Int)) = True := eq_true (by omega)
    have t2 : ((n : Int) ≤ 223) = False := eq_false (by omega)
    have t3 : ((224 : Int) ≤ (n : Int)) = True := eq_true (by omega)
    have t4 : ((n : Int) ≤ 239) = True := eq_true (by omega)
    have t5 : ((240 : Int) ≤ (n : Int)) = False := eq_false (by omega)
    have t6 : ((n : Int) ≤ 244) = True := eq_true (by omega)
    simp +contextual -dsimp (disch := omega) only [↓goDown, goUp, cr, simprocAttr, t0, t1, t2, t3, t4, t5, t6]
  · have e : ltN n = 4 := by unfold ltN; (repeat' split) <;> omega
    rw [e]
    have t0 : ((n : Int) < 128) = False := eq_false (by omega)
    have t1 : ((194 : Int) ≤ (n : Int)) = True := eq_true (by omega)
    have t2 : ((n : Int) ≤ 223) = False := eq_false (by omega)
    have t3 : ((224 : Int) ≤ (n : Int)) = True := eq_true (by omega)
    have t4 : ((n : Int) ≤ 239) = False := eq_false (by omega)
    have t5 : ((240 : Int) ≤ (n : Int)) = True := eq_true (by omega)
    have t6 : ((n : Int) ≤ 244) = True := eq_true (by omega)
    simp +contextual -dsimp (disch := omega) only [↓goDown, goUp, cr, simprocAttr, t0, t1, t2, t3, t4, t5, t6]
  · have e : ltN n = 0 := by unfold ltN; (repeat' split) <;> omega
    rw [e]
    have t0 : ((n : Int) < 128) = False := eq_false (by omega)
    have t1 : ((194 : Int) ≤ (n : Int)) = True := eq_true (by omega)
    have t2 : ((n : Int) ≤ 223) = False := eq_false (by omega)
    have t3 : ((224 : Int) ≤ (n : Int)) = True := eq_true (by omega)
    have t4 : ((n : Int) ≤ 239) = False := eq_false (by omega)
    have t5 : ((240 : Int) ≤ (n : Int)) = True := eq_true (by omega)
    have t6 : ((n : Int) ≤ 244) = False := eq_false (by omega)
    simp +contextual -dsimp (disch := omega) only [↓goDown, goUp, cr, simprocAttr, t0, t1, t2, t3, t4, t5, t6]
theorem uju {f k c : Nat} (h : c < 256) : run (C u29 [.int .u8 f, .int .i64 k, .int .u8 c]) H = some (.ok (.bool (folR f k c)) H) := by
  have e : ∀ {lo hi : Nat}, run (u04 (.int .u8 c) (.bool false) (.int .u8 lo) (.int .u8 hi)) H = some (.ok (.bool (decide (lo ≤ c ∧ c ≤ hi))) H) := by
    intro lo hi
    rw [u48]
    by_cases g : lo ≤ c
    · have g' : ((lo : Int) ≤ (c : Int)) = True := eq_true (by omega)
      have d : decide ((c : Int) ≤ (hi : Int)) = decide (lo ≤ c ∧ c ≤ hi) := by
        apply decide_eq_decide.mpr; omega
      simp +contextual -dsimp (disch := omega) only [↓goDown, goUp, cr, simprocAttr, g', d]
    · have g' : ((lo : Int) ≤ (c : Int)) = False := eq_false (by omega)
      have d : decide (lo ≤ c ∧ c ≤ hi) = false := decide_eq_false (by omega)
      simp +contextual -dsimp (disch := omega) only [↓goDown, goUp, cr, simprocAttr, g', d]
  have e1 : run (u04 (.int .u8 c) (.bool false) (.int .u8 160) (.int .u8 191)) H = _ := e (lo := 160) (hi := 191)
  have e2 : run (u04 (.int .u8 c) (.bool false) (.int .u8 128) (.int .u8 159)) H = _ := e (lo := 128) (hi := 159)
  have e3 : run (u04 (.int .u8 c) (.bool false) (.int .u8 144) (.int .u8 191)) H = _ := e (lo := 144) (hi := 191)
  have e4 : run (u04 (.int .u8 c) (.bool false) (.int .u8 128) (.int .u8 143)) H = _ := e (lo := 128) (hi := 143)
  have e5 : run (u04 (.int .u8 c) (.bool false) (.int .u8 128) (.int .u8 191)) H = _ := e (lo := 128) (hi := 191)
  rw [u5k]
  unfold folR loR hiR
  by_cases k1 : k = 1
  · subst k1
    by_cases f1 : f = 224
    · subst f1
      simp +contextual -dsimp (disch := omega) only [↓goDown, goUp, cr, simprocAttr, e1]
    · have f1' : ((f : Int) = 224) = False := eq_false (by omega)
      by_cases f2 : f = 237
      · subst f2
        simp +contextual -dsimp (disch := omega) only [↓goDown, goUp, cr, simprocAttr, e2]
      · have f2' : ((f : Int) = 237) = False := eq_false (by omega)
        by_cases f3 : f = 240
        · subst f3
          simp +contextual -dsimp (disch := omega) only [↓goDown, goUp, cr, simprocAttr, e3]
        · have f3' : ((f : Int) = 240) = False := eq_false (by omega)
          by_cases f4 : f = 244
          · subst f4
            simp +contextual -dsimp (disch := omega) only [↓goDown, goUp, cr, simprocAttr, e4]
          · have f4' : ((f : Int) = 244) = False := eq_false (by omega)
            simp +contextual -dsimp (disch := omega) only [↓goDown, goUp, cr, simprocAttr, e5, f1', f2', f3', f4', f1, f2, f3, f4]
  · have k1' : ((k : Int) = 1) = False := eq_false (by omega)
    simp +contextual -dsimp (disch := omega) only [↓goDown, goUp, cr, simprocAttr, e5, k1', k1]
theorem ufb {b : List UInt8} {v2 v3 : PV} {a n : Nat} (hb : b.length < 2 ^ 60) (ha : a < b.length) (hn : n ≤ 4) : ∀ (f k : Nat), n < k + f → k ≤ 5 →
    run (u0u (BS z b) v2 v3 (.int .i64 a) (.int .i64 n) (.int .i64 k)) H = match goR b a n f k with | some x => some (.ok (utfR (some x)) H) | none => run (u0z (BS z b) v2 v3 (.int .i64 (a + n : Nat))) H
  | 0, k, h, hk => by
    have g' : ((k : Int) < (n : Int)) = False := eq_false (by omega)
    have ea : ((a : Int) + (n : Int)) = ((a + n : Nat) : Int) := rfl
    have wa : IntKind.i64.wrap ((a + n : Nat) : Int) = ((a + n : Nat) : Int) := w_i64 (by omega)
    rw [u28, goR]
    simp +contextual -dsimp (disch := omega) only [↓goDown, goUp, cr, simprocAttr, g', ea, wa]
  | f + 1, k, h, hk => by
    rw [u28, goR]
    by_cases g : k < n
    · have g' : ((k : Int) < (n : Int)) = True := eq_true (by omega)
      rw [if_pos g]
      have ea : ((a : Int) + (k : Int)) = ((a + k : Nat) : Int) := rfl
      have wa : IntKind.i64.wrap ((a + k : Nat) : Int) = ((a + k : Nat) : Int) := w_i64 (by omega)
      by_cases gl : b.length ≤ a + k
      · have gl' : ((b.length : Int) ≤ ((a + k : Nat) : Int)) = True := eq_true (by omega)
        rw [if_pos gl]
        simp +contextual -dsimp (disch := omega) only [↓goDown, goUp, cr, simprocAttr, g', ea, wa, List.length_map, gl', utfR]
      · have gl' : ((b.length : Int) ≤ ((a + k : Nat) : Int)) = False := eq_false (by omega)
        rw [if_neg gl]
        have i1 := fun K => iaB (H := K) (z := z) (p := b) (i := a) ha
        have i2 := fun K => iaB (H := K) (z := z) (p := b) (i := a + k) (by omega)
        have hf := fun K => uju (H := K) (f := bN b a) (k := k) (c := bN b (a + k)) bN_lt
        cases hc : folR (bN b a) k (bN b (a + k)) with
        | false =>
          rw [hc] at hf
          rw [if_pos rfl]
          simp +contextual -dsimp (disch := omega) only [↓goDown, goUp, cr, simprocAttr, g', ea, wa, List.length_map, gl', i1, i2, hf, un_not, utfR]
        | true =>
          rw [hc] at hf
          rw [if_neg (by decide)]
          have ih := ufb (v2 := v2) (v3 := v3) hb ha hn f (k + 1) (by omega) (by omega)
          have ek : ((k : Int) + 1) = ((k + 1 : Nat) : Int) := rfl
          have wk : IntKind.i64.wrap ((k + 1 : Nat) : Int) = ((k + 1 : Nat) : Int) := w_i64 (by omega)
          simp +contextual -dsimp (disch := omega) only [↓goDown, goUp, cr, simprocAttr, g', ea, wa, List.length_map, gl', i1, i2, hf, un_not, ek, wk, ih]
    · have g' : ((k : Int) < (n : Int)) = False := eq_false (by omega)
      rw [if_neg g]
      have ea : ((a : Int) + (n : Int)) = ((a + n : Nat) : Int) := rfl
      have wa : IntKind.i64.wrap ((a + n : Nat) : Int) = ((a + n : Nat) : Int) := w_i64 (by omega)
      simp +contextual -dsimp (disch := omega) only [↓goDown, goUp, cr, simprocAttr, g', ea, wa]
theorem lt_le {c : Nat} : ltN c ≤ 4 := by unfold ltN; (repeat' split) <;> omega
theorem uf1 {b : List UInt8} {v2 v3 : PV} (hb : b.length < 2 ^ 60) : ∀ (f a : Nat), b.length - a < f → a ≤ b.length + 4 →
    run (u0z (BS z b) v2 v3 (.int .i64 a)) H = some (.ok (utfR (badR b f a)) H)
  | 0, a, h, ha => by omega
  | f + 1, a, h, ha => by
    rw [u4w, badR]
    by_cases hl : a < b.length
    · have g' : ((a : Int) < (b.length : Int)) = True := eq_true (by omega)
      rw [if_pos hl]
      have i1 := fun K => iaB (H := K) (z := z) (p := b) (i := a) hl
      have hf := fun K => ukh (H := K) (n := bN b a) bN_lt
      by_cases h0 : ltN (bN b a) = 0
      · rw [h0] at hf
        rw [if_pos h0]
        simp +contextual -dsimp (disch := omega) only [↓goDown, goUp, cr, simprocAttr, g', List.length_map, i1, hf, utfR, show ((0 : Nat) : Int) = 0 from rfl]
      · have h0' : ((ltN (bN b a) : Nat) : Int) = 0 ↔ False := iff_false_intro (by omega)
        rw [if_neg h0]
        have hi := ufb (H := H) (z := z) (v2 := v2) (v3 := v3) hb hl lt_le 5 1 (Nat.lt_of_le_of_lt (lt_le (c := bN b a)) (by omega)) (by omega)
        have hi : run (u0u (BS z b) v2 v3 (.int .i64 a) (.int .i64 (ltN (bN b a) : Nat)) (.int .i64 1)) H = _ := hi
        have hlt := lt_le (c := bN b a)
        simp +contextual -dsimp (disch := omega) only [↓goDown, goUp, cr, simprocAttr, g', List.length_map, i1, hf, h0', hi]
        cases hg : goR b a (ltN (bN b a)) 5 1 with
        | some x => rfl
        | none => exact uf1 hb f (a + ltN (bN b a)) (by omega) (by omega)
    · have g' : ((a : Int) < (b.length : Int)) = False := eq_false (by omega)
      rw [if_neg hl]
      simp +contextual -dsimp (disch := omega) only [↓goDown, goUp, cr, simprocAttr, g', List.length_map, utfR]
theorem uok {b : List UInt8} (hb : b.length < 2 ^ 60) : run (C u26 [BS z b]) H = some (.ok (utfR (utfN b)) H) := by
  have h := uf1 (H := H) (z := z) (v2 := .int .i64 0) (v3 := .bool false) hb (b.length + 1) 0 (by omega) (by omega)
  have h : run (u0z (BS z b) (.int .i64 0) (.bool false) (.int .i64 0)) H = _ := h
  rw [uiq] at h
  rw [u6t]
  simp +contextual -dsimp (disch := omega) only [↓goDown, goUp, cr, simprocAttr, h, utfN, upz]
end Go.Proofs.YthnmienjiangkaaDoor.Pi.Q
namespace Go.Proofs.YthnmienjiangkaaDoor.Pi.Q
open Go Go.Proofs.YthnmienjiangkaaDoor.Pi
attribute [local congr] ite_congr
variable {H : Heap} {z : Bool}
abbrev SB (u : List UInt8) : PV := .str ⟨⟨u⟩⟩
theorem ixS_is {u : List UInt8} {i : Nat} {k : IntKind} (h : i < u.length) : run (ixS (SB u) (.int k i)) H = some (.ok (.int .u8 (bN u i : Nat)) H) := by
  unfold run ixS
  have h0 : decide ((0 : Int) ≤ (i : Int)) = true := decide_eq_true (by omega)
  simp only [h0, cond_true, Int.toNat_natCast]
  rw [show u[i]? = some u[i] from List.getElem?_eq_getElem h]
  unfold bN
  simp [List.getD_eq_getElem?_getD, List.getElem?_eq_getElem h, M.pure]
theorem slS_is {u : List UInt8} {n : Nat} {k : IntKind} (h : n ≤ u.length) : run (slS (SB u) (some (.int k n)) none) H = some (.ok (SB (u.drop n)) H) := by
  unfold run slS bnd
  have h0 : decide ((0 : Int) ≤ (n : Int)) = true := decide_eq_true (by omega)
  have h1 : decide (n ≤ (ByteArray.mk ⟨u⟩).size) = true := decide_eq_true h
  simp only [h0, cond_true, Int.toNat_natCast, h1, Nat.le_refl, decide_true, Bool.and_self, M.pure]
  have e : (ByteArray.mk ⟨u⟩).extract n (ByteArray.mk ⟨u⟩).size = ByteArray.mk ⟨u.drop n⟩ := by
    have := Lib.ext_list (ByteArray.mk ⟨u⟩) n
    generalize (ByteArray.mk ⟨u⟩).extract n (ByteArray.mk ⟨u⟩).size = B at *
    obtain ⟨⟨B⟩⟩ := B
    exact congrArg (fun l => ByteArray.mk ⟨l⟩) this
  rw [e]
theorem lnS_is {u : List UInt8} : run (lnS (SB u)) H = some (.ok (.int .i64 u.length) H) := nrfl rfl
theorem le8 {u : List UInt8} (h : 8 ≤ u.length) : Lib.leNat (u.take 8) = bN u 0 + bN u 1 * 2 ^ 8 + bN u 2 * 2 ^ 16 + bN u 3 * 2 ^ 24 + bN u 4 * 2 ^ 32 + bN u 5 * 2 ^ 40 + bN u 6 * 2 ^ 48 + bN u 7 * 2 ^ 56 := by
  match u, h with
  | a0 :: a1 :: a2 :: a3 :: a4 :: a5 :: a6 :: a7 :: r, _ =>
    simp only [List.take, Lib.leNat, bN, List.getD_cons_zero, List.getD_cons_succ]
    omega
theorem jn {n x s : Nat} (hs : s ≤ 56) (hn : n < 2 ^ s) (hx : x < 256) : bi .or .none (.int .u64 n) (.int .u64 (IntKind.u64.wrap ((x : Int) * 2 ^ shiftN .u64 (s : Int)))) = M.pure (.int .u64 ((n + x * 2 ^ s : Nat) : Int)) := by
  have hp : 2 ^ s ≤ 2 ^ 56 := Nat.pow_le_pow_right (by omega) hs
  have h2 : x * 2 ^ s ≤ 255 * 2 ^ 56 := Nat.mul_le_mul (by omega) hp
  rw [run_or, (uns (by omega) hn (by omega)).1]
theorem u7f {u : List UInt8} (h : 8 ≤ u.length) : run (C u0f [SB u]) H = some (.ok (.int .u64 (Lib.leNat (u.take 8) : Nat)) H) := by
  rw [le8 h, u4x]
  have i0 := fun K => ixS_is (H := K) (u := u) (i := 0) (k := .i64) (by omega)
  have l0 : bN u 0 < 256 := bN_lt
  have w0 : IntKind.u64.wrap ((bN u 0 : Nat) : Int) = ((bN u 0 : Nat) : Int) := w_u64 (by omega)
  have i1 := fun K => ixS_is (H := K) (u := u) (i := 1) (k := .i64) (by omega)
  have l1 : bN u 1 < 256 := bN_lt
  have w1 : IntKind.u64.wrap ((bN u 1 : Nat) : Int) = ((bN u 1 : Nat) : Int) := w_u64 (by omega)
  have i2 := fun K => ixS_is (H := K) (u := u) (i := 2) (k := .i64) (by omega)
  have l2 : bN u 2 < 256 := bN_lt
  have w2 : IntKind.u64.wrap ((bN u 2 : Nat) : Int) = ((bN u 2 : Nat) : Int) := w_u64 (by omega)
  have i3 := fun K => ixS_is (H := K) (u := u) (i := 3) (k := .i64) (by omega)
  have l3 : bN u 3 < 256 := bN_lt
  have w3 : IntKind.u64.wrap ((bN u 3 : Nat) : Int) = ((bN u 3 : Nat) : Int) := w_u64 (by omega)
  have i4 := fun K => ixS_is (H := K) (u := u) (i := 4) (k := .i64) (by omega)
  have l4 : bN u 4 < 256 := bN_lt
  have w4 : IntKind.u64.wrap ((bN u 4 : Nat) : Int) = ((bN u 4 : Nat) : Int) := w_u64 (by omega)
  have i5 := fun K => ixS_is (H := K) (u := u) (i := 5) (k := .i64) (by omega)
  have l5 : bN u 5 < 256 := bN_lt
  have w5 : IntKind.u64.wrap ((bN u 5 : Nat) : Int) = ((bN u 5 : Nat) : Int) := w_u64 (by omega)
  have i6 := fun K => ixS_is (H := K) (u := u) (i := 6) (k := .i64) (by omega)
  have l6 : bN u 6 < 256 := bN_lt
  have w6 : IntKind.u64.wrap ((bN u 6 : Nat) : Int) = ((bN u 6 : Nat) : Int) := w_u64 (by omega)
  have i7 := fun K => ixS_is (H := K) (u := u) (i := 7) (k := .i64) (by omega)
  have l7 : bN u 7 < 256 := bN_lt
  have w7 : IntKind.u64.wrap ((bN u 7 : Nat) : Int) = ((bN u 7 : Nat) : Int) := w_u64 (by omega)
  simp only [show ((0 : Nat) : Int) = 0 from rfl, show ((1 : Nat) : Int) = 1 from rfl, show ((2 : Nat) : Int) = 2 from rfl, show ((3 : Nat) : Int) = 3 from rfl, show ((4 : Nat) : Int) = 4 from rfl, show ((5 : Nat) : Int) = 5 from rfl, show ((6 : Nat) : Int) = 6 from rfl, show ((7 : Nat) : Int) = 7 from rfl] at i0 i1 i2 i3 i4 i5 i6 i7
  generalize bN u 0 = c0 at *
  generalize bN u 1 = c1 at *
  generalize bN u 2 = c2 at *
  generalize bN u 3 = c3 at *
  generalize bN u 4 = c4 at *
  generalize bN u 5 = c5 at *
  generalize bN u 6 = c6 at *
  generalize bN u 7 = c7 at *
  have j1 : bi .or .none (.int .u64 ((c0 : Nat) : Int)) (.int .u64 (IntKind.u64.wrap ((c1 : Int) * 2 ^ shiftN .u64 8))) = _ := jn (n := c0) (x := c1) (s := 8) (by decide) (by omega) l1
  have j2 : bi .or .none (.int .u64 ((c0 + c1 * 2 ^ 8 : Nat) : Int)) (.int .u64 (IntKind.u64.wrap ((c2 : Int) * 2 ^ shiftN .u64 16))) = _ := jn (n := c0 + c1 * 2 ^ 8) (x := c2) (s := 16) (by decide) (by omega) l2
  have j3 : bi .or .none (.int .u64 ((c0 + c1 * 2 ^ 8 + c2 * 2 ^ 16 : Nat) : Int)) (.int .u64 (IntKind.u64.wrap ((c3 : Int) * 2 ^ shiftN .u64 24))) = _ := jn (n := c0 + c1 * 2 ^ 8 + c2 * 2 ^ 16) (x := c3) (s := 24) (by decide) (by omega) l3
  have j4 : bi .or .none (.int .u64 ((c0 + c1 * 2 ^ 8 + c2 * 2 ^ 16 + c3 * 2 ^ 24 : Nat) : Int)) (.int .u64 (IntKind.u64.wrap ((c4 : Int) * 2 ^ shiftN .u64 32))) = _ := jn (n := c0 + c1 * 2 ^ 8 + c2 * 2 ^ 16 + c3 * 2 ^ 24) (x := c4) (s := 32) (by decide) (by omega) l4
  have j5 : bi .or .none (.int .u64 ((c0 + c1 * 2 ^ 8 + c2 * 2 ^ 16 + c3 * 2 ^ 24 + c4 * 2 ^ 32 : Nat) : Int)) (.int .u64 (IntKind.u64.wrap ((c5 : Int) * 2 ^ shiftN .u64 40))) = _ := jn (n := c0 + c1 * 2 ^ 8 + c2 * 2 ^ 16 + c3 * 2 ^ 24 + c4 * 2 ^ 32) (x := c5) (s := 40) (by decide) (by omega) l5
  have j6 : bi .or .none (.int .u64 ((c0 + c1 * 2 ^ 8 + c2 * 2 ^ 16 + c3 * 2 ^ 24 + c4 * 2 ^ 32 + c5 * 2 ^ 40 : Nat) : Int)) (.int .u64 (IntKind.u64.wrap ((c6 : Int) * 2 ^ shiftN .u64 48))) = _ := jn (n := c0 + c1 * 2 ^ 8 + c2 * 2 ^ 16 + c3 * 2 ^ 24 + c4 * 2 ^ 32 + c5 * 2 ^ 40) (x := c6) (s := 48) (by decide) (by omega) l6
  have j7 : bi .or .none (.int .u64 ((c0 + c1 * 2 ^ 8 + c2 * 2 ^ 16 + c3 * 2 ^ 24 + c4 * 2 ^ 32 + c5 * 2 ^ 40 + c6 * 2 ^ 48 : Nat) : Int)) (.int .u64 (IntKind.u64.wrap ((c7 : Int) * 2 ^ shiftN .u64 56))) = _ := jn (n := c0 + c1 * 2 ^ 8 + c2 * 2 ^ 16 + c3 * 2 ^ 24 + c4 * 2 ^ 32 + c5 * 2 ^ 40 + c6 * 2 ^ 48) (x := c7) (s := 56) (by decide) (by omega) l7
  simp +contextual -dsimp (disch := omega) only [↓goDown, goUp, cr, simprocAttr, i0, w0, i1, w1, i2, w2, i3, w3, i4, w4, i5, w5, i6, w6, i7, w7, upj, j1, j2, j3, j4, j5, j6, j7]
theorem uct {x : Nat} (h : x < 2 ^ 64) : bi .and .none (.int .u64 (x : Int)) (.int .u64 9259542123273814144) = M.pure (.int .u64 ((x &&& 9259542123273814144 : Nat) : Int)) := by
  rw [ucw, show IntKind.u64.bits = 64 from rfl]
  have e : (BitVec.ofInt 64 (x : Int) &&& BitVec.ofInt 64 9259542123273814144).toNat = x &&& 9259542123273814144 := bv_and (w := 64) (a := x) (b := 9259542123273814144) h (by decide)
  have l : x &&& 9259542123273814144 ≤ x := Nat.and_le_left
  rw [e, w_u64 (by omega)]
theorem or_and {x y : Nat} (hx : x < 2 ^ 64) (hy : y < 2 ^ 64) : bi .or .none (.int .u64 (x : Int)) (.int .u64 (y : Int)) = M.pure (.int .u64 ((x ||| y : Nat) : Int)) := by
  rw [run_or, show IntKind.u64.bits = 64 from rfl, bv_or (w := 64) hx hy]
  have := Nat.or_lt_two_pow hx hy
  rw [w_u64 (by omega)]
theorem le8_lt {u : List UInt8} : Lib.leNat (u.take 8) < 2 ^ 64 := by
  have := Lib.leNat_lt (u.take 8)
  have h : (u.take 8).length ≤ 8 := by rw [List.length_take]; omega
  exact Nat.lt_of_lt_of_le this (Nat.le_trans (Nat.pow_le_pow_right (by decide) h) (by decide))
theorem u5l {u : List UInt8} (h : 8 ≤ u.length) (hm : Lib.leNat (u.take 8) &&& 9259542123273814144 = 0) : Lib.validD u = Lib.validD (u.drop 8) := by
  have hl : (u.take 8).length = 8 := by rw [List.length_take]; omega
  have := (Lib.leNat_mask (u.take 8)).mp (by rw [hl, Lib.maskN8]; exact hm)
  exact Lib.validD_ascii 8 u this
def VOk (v2 : PV) (n : Nat) : Prop := ∀ (u : List UInt8) (H : Heap), u.length ≤ n → u.length < 2 ^ 60 → ∃ E, run (u06 (SB u) v2) H = some (.ok (.bool (Lib.validD u)) (hadd H E))
theorem fast32 {v2 v3 : PV} {n : Nat} (hm : VOk v2 n) : ∀ (f : Nat) (u : List UInt8) (H : Heap), u.length ≤ f → u.length ≤ n → u.length < 2 ^ 60 →
    ∃ E, run (u0i (SB u) v2 v3) H = some (.ok (.bool (Lib.validD u)) (hadd H E))
  | f, u, H, hf, hn, hu => by
    rw [u2b]
    have hl := fun K => lnS_is (H := K) (u := u)
    obtain ⟨E, he⟩ := hm u H hn hu
    by_cases h : 32 < u.length
    · have h' : ((32 : Int) < (u.length : Int)) = True := eq_true (by omega)
      have a1 := fun K => u7f (H := K) (u := u) (by omega)
      have a2 := fun K => u7f (H := K) (u := u.drop 8) (by rw [List.length_drop]; omega)
      have a3 := fun K => u7f (H := K) (u := u.drop 16) (by rw [List.length_drop]; omega)
      have a4 := fun K => u7f (H := K) (u := u.drop 24) (by rw [List.length_drop]; omega)
      have d8 := fun K => slS_is (H := K) (u := u) (n := 8) (k := .i64) (by omega)
      have d16 := fun K => slS_is (H := K) (u := u) (n := 16) (k := .i64) (by omega)
      have d24 := fun K => slS_is (H := K) (u := u) (n := 24) (k := .i64) (by omega)
      have d32 := fun K => slS_is (H := K) (u := u) (n := 32) (k := .i64) (by omega)
      simp only [show ((8 : Nat) : Int) = 8 from rfl, show ((16 : Nat) : Int) = 16 from rfl, show ((24 : Nat) : Int) = 24 from rfl, show ((32 : Nat) : Int) = 32 from rfl] at d8 d16 d24 d32
      have l1 := le8_lt (u := u)
      have l2 := le8_lt (u := u.drop 8)
      have l3 := le8_lt (u := u.drop 16)
      have l4 := le8_lt (u := u.drop 24)
      have o1 := or_and l1 l2
      have o2 := or_and l3 l4
      have o3 := or_and (Nat.or_lt_two_pow l1 l2) (Nat.or_lt_two_pow l3 l4)
      have ma := uct (Nat.or_lt_two_pow (Nat.or_lt_two_pow l1 l2) (Nat.or_lt_two_pow l3 l4))
      by_cases g : ((Lib.leNat (u.take 8) ||| Lib.leNat ((u.drop 8).take 8)) ||| (Lib.leNat ((u.drop 16).take 8) ||| Lib.leNat ((u.drop 24).take 8))) &&& 9259542123273814144 = 0
      · skip
        have g' := g
        rw [Lib.or_mask, Lib.or_mask, Lib.or_mask] at g
        obtain ⟨⟨g1, g2⟩, g3, g4⟩ := g
        have e : Lib.validD u = Lib.validD (u.drop 32) := by
          rw [u5l (by omega) g1, u5l (by rw [List.length_drop]; omega) g2, List.drop_drop, u5l (by rw [List.length_drop]; omega) g3, List.drop_drop, u5l (by rw [List.length_drop]; omega) g4, List.drop_drop]
        obtain ⟨f, rfl⟩ : ∃ k, f = k + 1 := ⟨f - 1, by omega⟩
        obtain ⟨E, ih⟩ := fast32 hm (v3 := v3) f (u.drop 32) H (by rw [List.length_drop]; omega) (by rw [List.length_drop]; omega) (by rw [List.length_drop]; omega)
        refine ⟨E, ?_⟩
        rw [e]
        rw [g'] at ma
        simp +contextual -dsimp (disch := omega) only [↓goDown, goUp, cr, simprocAttr, u0r, h', a1, a2, a3, a4, d8, d16, d24, d32, o1, o2, o3, ma, ih]
      · refine ⟨E, ?_⟩
        have g' : (((((Lib.leNat (u.take 8) ||| Lib.leNat ((u.drop 8).take 8)) ||| (Lib.leNat ((u.drop 16).take 8) ||| Lib.leNat ((u.drop 24).take 8))) &&& 9259542123273814144 : Nat) : Int) = 0) = False := eq_false (by omega)
        simp +contextual -dsimp (disch := omega) only [↓goDown, goUp, cr, simprocAttr, u0r, h', a1, a2, a3, a4, d8, d16, d24, d32, o1, o2, o3, ma, g', u08, he]
    · have h' : ((32 : Int) < (u.length : Int)) = False := eq_false (by omega)
      refine ⟨E, ?_⟩
      simp +contextual -dsimp (disch := omega) only [↓goDown, goUp, cr, simprocAttr, u0r, h', u08, he]
end Go.Proofs.YthnmienjiangkaaDoor.Pi.Q
namespace Go.Proofs.YthnmienjiangkaaDoor.Pi.Q
open Go Go.Proofs.YthnmienjiangkaaDoor.Pi
attribute [local congr] ite_congr
variable {H : Heap} {z : Bool}
theorem uml {u : List UInt8} (h : u ≠ []) (h0 : bN u 0 < 128) : ∀ b ∈ u.take 1, b.toNat < 128 := by
  cases u with
  | nil => exact absurd rfl h
  | cons c r => intro b hb; simp at hb; subst hb; exact h0
theorem uca {u : List UInt8} (h : u ≠ []) (h0 : 128 ≤ bN u 0) : Lib.validD u = if letL u = 0 then false else Lib.validD (u.drop (letL u)) := by
  have e := Lib.validD_lead u h h0
  have c := ulp (n := u.length) (c0 := bN u 0) (c1 := bN u 1) (c2 := bN u 2) (c3 := bN u 3) h0
  unfold letL
  rw [c, e]
  unfold bN
  have d := Lib.check_decode u.length (bN u 0) (bN u 1) (bN u 2) (bN u 3) (List.length_pos_iff.2 h) h0 bN_lt bN_lt bN_lt bN_lt
  unfold bN at d
  rcases d with ⟨d, _⟩ | ⟨k, hk, d, _⟩
  · rw [d]; rfl
  · rw [d]; exact (if_neg (show ¬ k = 0 by omega)).symm
theorem uoe {v2 v3 : PV} {n : Nat} (hm : VOk v2 n) {u : List UInt8} {H : Heap} (hn : u.length ≤ n + 1) (hu : u.length < 2 ^ 60) (h : u ≠ []) (h0 : bN u 0 < 128) :
    ∃ E, run (u06 (SB u) v2) H = some (.ok (.bool (Lib.validD u)) (hadd H E)) := by
  have hl : 0 < u.length := List.length_pos_iff.2 h
  have x0 := fun K => ixS_is (H := K) (u := u) (i := 0) (k := .i64) hl
  have x1 := fun K => slS_is (H := K) (u := u) (n := 1) (k := .i64) hl
  simp only [show ((0 : Nat) : Int) = 0 from rfl, show ((1 : Nat) : Int) = 1 from rfl] at x0 x1
  have c0 : ((0 : Int) < (u.length : Int)) = True := eq_true (by omega)
  have c1 : (((bN u 0 : Nat) : Int) < 128) = True := eq_true (by omega)
  rw [Lib.validD_ascii 1 u (uml h h0)]
  have hd : (u.drop 1).length = u.length - 1 := List.length_drop
  rw [u0q]
  generalize u.drop 1 = t at *
  obtain ⟨E1, e1⟩ := hm t H (by omega) (by omega)
  by_cases h8 : 8 < t.length
  · have h8' : ((8 : Int) < (t.length : Int)) = True := eq_true (by omega)
    have a1 := fun K => u7f (H := K) (u := t) (by omega)
    have m1 := uct (le8_lt (u := t))
    by_cases g1 : Lib.leNat (t.take 8) &&& 9259542123273814144 = 0
    · have x8 := fun K => slS_is (H := K) (u := t) (n := 8) (k := .i64) (by omega)
      simp only [show ((8 : Nat) : Int) = 8 from rfl] at x8
      rw [g1] at m1
      rw [u5l (by omega) g1]
      have hd8 : (t.drop 8).length = t.length - 8 := List.length_drop
      generalize t.drop 8 = s at *
      obtain ⟨E2, e2⟩ := hm s H (by omega) (by omega)
      by_cases h16 : 16 < s.length
      · have h16' : ((16 : Int) < (s.length : Int)) = True := eq_true (by omega)
        have a2 := fun K => u7f (H := K) (u := s) (by omega)
        have a3 := fun K => u7f (H := K) (u := s.drop 8) (by rw [List.length_drop]; omega)
        have y8 := fun K => slS_is (H := K) (u := s) (n := 8) (k := .i64) (by omega)
        have y16 := fun K => slS_is (H := K) (u := s) (n := 16) (k := .i64) (by omega)
        simp only [show ((8 : Nat) : Int) = 8 from rfl, show ((16 : Nat) : Int) = 16 from rfl] at y8 y16
        have o1 := or_and (le8_lt (u := s)) (le8_lt (u := s.drop 8))
        have m2 := uct (Nat.or_lt_two_pow (le8_lt (u := s)) (le8_lt (u := s.drop 8)))
        by_cases g2 : (Lib.leNat (s.take 8) ||| Lib.leNat ((s.drop 8).take 8)) &&& 9259542123273814144 = 0
        · rw [g2] at m2
          rw [Lib.or_mask] at g2
          obtain ⟨E3, e3⟩ := fast32 hm (v3 := .int .u8 (bN u 0 : Nat)) (s.drop 16).length (s.drop 16) H (Nat.le_refl _) (by rw [List.length_drop]; omega) (by rw [List.length_drop]; omega)
          refine ⟨E3, ?_⟩
          rw [u5l (by omega) g2.1, u5l (by rw [List.length_drop]; omega) g2.2, List.drop_drop]
          simp +contextual -dsimp (disch := omega) only [↓goDown, goUp, cr, simprocAttr, u0r, x0, x1, c0, c1, h8', a1, m1, x8, h16', a2, a3, y8, y16, o1, m2, e3]
        · have g2' : ((((Lib.leNat (s.take 8) ||| Lib.leNat ((s.drop 8).take 8)) &&& 9259542123273814144 : Nat) : Int) = 0) = False := eq_false (by omega)
          refine ⟨E2, ?_⟩
          simp +contextual -dsimp (disch := omega) only [↓goDown, goUp, cr, simprocAttr, u0r, x0, x1, c0, c1, h8', a1, m1, x8, h16', a2, a3, y8, y16, o1, m2, g2', u08, e2]
      · have h16' : ((16 : Int) < (s.length : Int)) = False := eq_false (by omega)
        refine ⟨E2, ?_⟩
        simp +contextual -dsimp (disch := omega) only [↓goDown, goUp, cr, simprocAttr, u0r, x0, x1, c0, c1, h8', a1, m1, x8, h16', u08, e2]
    · have g1' : (((Lib.leNat (t.take 8) &&& 9259542123273814144 : Nat) : Int) = 0) = False := eq_false (by omega)
      refine ⟨E1, ?_⟩
      simp +contextual -dsimp (disch := omega) only [↓goDown, goUp, cr, simprocAttr, u0r, x0, x1, c0, c1, h8', a1, m1, g1', u08, e1]
  · have h8' : ((8 : Int) < (t.length : Int)) = False := eq_false (by omega)
    refine ⟨E1, ?_⟩
    simp +contextual -dsimp (disch := omega) only [↓goDown, goUp, cr, simprocAttr, u0r, x0, x1, c0, c1, h8', u08, e1]
theorem ulx {v2 : PV} {n : Nat} (hm : VOk v2 n) {u : List UInt8} {H : Heap} (hn : u.length ≤ n + 1) (hu : u.length < 2 ^ 60) (h : u ≠ []) (h0 : 128 ≤ bN u 0) :
    ∃ E, run (u06 (SB u) v2) H = some (.ok (.bool (Lib.validD u)) (hadd H E)) := by
  have hl : 0 < u.length := List.length_pos_iff.2 h
  have x0 := fun K => ixS_is (H := K) (u := u) (i := 0) (k := .i64) hl
  simp only [show ((0 : Nat) : Int) = 0 from rfl] at x0
  have c0 : ((0 : Int) < (u.length : Int)) = True := eq_true (by omega)
  have c1 : (((bN u 0 : Nat) : Int) < 128) = False := eq_false (by omega)
  rw [uca h h0]
  unfold letL letN
  have hf := ucx (bN u 0)
  have hia := fun K => ukj (H := K) (c := bN u 0) bN_lt
  have hac := fun K => ups (H := K) (i := Lib.firstT (bN u 0) / 16) (by omega)
  have w1 : IntKind.i64.wrap ((Lib.firstT (bN u 0) % 8 : Nat) : Int) = ((Lib.firstT (bN u 0) % 8 : Nat) : Int) := w_i64 (by omega)
  have s4 := up5 hf
  have a7 := upg (c := bN u 0)
  have r1 := fun (h : 1 < u.length) K => ixS_is (H := K) (u := u) (k := .i64) h
  have r2 := fun (h : 2 < u.length) K => ixS_is (H := K) (u := u) (k := .i64) h
  have r3 := fun (h : 3 < u.length) K => ixS_is (H := K) (u := u) (k := .i64) h
  simp only [show ((1 : Nat) : Int) = 1 from rfl, show ((2 : Nat) : Int) = 2 from rfl, show ((3 : Nat) : Int) = 3 from rfl] at r1 r2 r3
  have d2 := fun (h : 2 ≤ u.length) K => slS_is (H := K) (u := u) (n := 2) (k := .i64) h
  have d3 := fun (h : 3 ≤ u.length) K => slS_is (H := K) (u := u) (n := 3) (k := .i64) h
  have d4 := fun (h : 4 ≤ u.length) K => slS_is (H := K) (u := u) (n := 4) (k := .i64) h
  simp only [show ((4 : Nat) : Int) = 4 from rfl, show ((2 : Nat) : Int) = 2 from rfl, show ((3 : Nat) : Int) = 3 from rfl] at d2 d3 d4
  rw [if_neg (show ¬ bN u 0 < 128 by omega)]
  by_cases hx : 240 ≤ Lib.firstT (bN u 0)
  · have ex := udb h0 hx
    rw [ex] at hia hac s4 a7 w1
    simp only [show 241 % 8 = 1 from rfl, show 241 / 16 = 15 from rfl, show ((1 : Nat) : Int) = 1 from rfl, show ((15 : Nat) : Int) = 15 from rfl, show ((241 : Nat) : Int) = 241 from rfl] at hia hac s4 a7 w1
    rw [if_pos hx, if_pos rfl]
    refine ⟨[.cells [.int .u8 (Lib.accLo 15), .int .u8 (Lib.accHi 15)]], ?_⟩
    rw [u0q]
    simp +contextual -dsimp (disch := omega) only [↓goDown, goUp, cr, simprocAttr, u0r, x0, c0, c1, hia, hac, s4, a7, w1]
  · have hm8 := u9z h0 hx
    rw [if_neg hx]
    generalize Lib.firstT (bN u 0) = x at *
    have x16 : x / 16 < 16 := by omega
    rw [u0q]
    generalize bN u 1 = b1 at *
    generalize bN u 2 = b2 at *
    generalize bN u 3 = b3 at *
    have hcont : ∀ k, 1 ≤ k → ∃ E, run (u06 (SB (u.drop k)) v2) (hadd H [.cells [.int .u8 (Lib.accLo (x / 16)), .int .u8 (Lib.accHi (x / 16))]]) = some (.ok (.bool (Lib.validD (u.drop k))) (hadd (hadd H [.cells [.int .u8 (Lib.accLo (x / 16)), .int .u8 (Lib.accHi (x / 16))]]) E)) :=
      fun k hk => hm (u.drop k) _ (by rw [List.length_drop]; omega) (by rw [List.length_drop]; omega)
    generalize Lib.accLo (x / 16) = lo at *
    generalize Lib.accHi (x / 16) = hi at *
    rcases hm8 with hs | hs | hs
    · rw [hs] at a7 w1 ⊢
      simp only [show ((2 : Nat) : Int) = 2 from rfl] at a7 w1
      by_cases q0 : u.length < 2
      · have t0 : ((u.length : Int) < 2) = True := eq_true (by omega)
        rw [if_pos q0, if_pos rfl]
        exact ⟨[.cells [.int .u8 lo, .int .u8 hi]], by simp +contextual -dsimp (disch := omega) only [↓goDown, goUp, cr, simprocAttr, u0r, x0, c0, c1, hia, hac, s4, a7, w1, t0]⟩
      · have t0 : ((u.length : Int) < 2) = False := eq_false (by omega)
        have r1 := r1 (by omega)
        have dd := d2 (by omega)
        rw [if_neg q0]
        by_cases l1 : b1 < lo
        · have tl1 : ((b1 : Int) < (lo : Int)) = True := eq_true (by omega)
          rw [if_pos (show b1 < lo ∨ hi < b1 from .inl l1), if_pos rfl]
          exact ⟨[.cells [.int .u8 lo, .int .u8 hi]], by simp +contextual -dsimp (disch := omega) only [↓goDown, goUp, cr, simprocAttr, u0r, x0, c0, c1, hia, hac, s4, a7, w1, t0, r1, dd, tl1]⟩
        · have tl1 : ((b1 : Int) < (lo : Int)) = False := eq_false (by omega)
          by_cases u1 : hi < b1
          · have tu1 : ((hi : Int) < (b1 : Int)) = True := eq_true (by omega)
            rw [if_pos (show b1 < lo ∨ hi < b1 from .inr u1), if_pos rfl]
            exact ⟨[.cells [.int .u8 lo, .int .u8 hi]], by simp +contextual -dsimp (disch := omega) only [↓goDown, goUp, cr, simprocAttr, u0r, x0, c0, c1, hia, hac, s4, a7, w1, t0, r1, dd, tl1, tu1]⟩
          · have tu1 : ((hi : Int) < (b1 : Int)) = False := eq_false (by omega)
            rw [if_neg (show ¬ (b1 < lo ∨ hi < b1) by omega)]
            rw [if_pos (show 2 ≤ 2 by decide)]
            rw [if_neg (show ¬ 2 = 0 by decide)]
            obtain ⟨E, ih⟩ := hcont 2 (by decide)
            refine ⟨[.cells [.int .u8 lo, .int .u8 hi]] ++ E, ?_⟩
            rw [← u7j]
            simp +contextual -dsimp (disch := omega) only [↓goDown, goUp, cr, simprocAttr, u0r, x0, c0, c1, hia, hac, s4, a7, w1, t0, r1, dd, tl1, tu1, ih]
    · rw [hs] at a7 w1 ⊢
      simp only [show ((3 : Nat) : Int) = 3 from rfl] at a7 w1
      by_cases q0 : u.length < 3
      · have t0 : ((u.length : Int) < 3) = True := eq_true (by omega)
        rw [if_pos q0, if_pos rfl]
        exact ⟨[.cells [.int .u8 lo, .int .u8 hi]], by simp +contextual -dsimp (disch := omega) only [↓goDown, goUp, cr, simprocAttr, u0r, x0, c0, c1, hia, hac, s4, a7, w1, t0]⟩
      · have t0 : ((u.length : Int) < 3) = False := eq_false (by omega)
        have r1 := r1 (by omega)
        have r2 := r2 (by omega)
        have dd := d3 (by omega)
        rw [if_neg q0]
        by_cases l1 : b1 < lo
        · have tl1 : ((b1 : Int) < (lo : Int)) = True := eq_true (by omega)
          rw [if_pos (show b1 < lo ∨ hi < b1 from .inl l1), if_pos rfl]
          exact ⟨[.cells [.int .u8 lo, .int .u8 hi]], by simp +contextual -dsimp (disch := omega) only [↓goDown, goUp, cr, simprocAttr, u0r, x0, c0, c1, hia, hac, s4, a7, w1, t0, r1, r2, dd, tl1]⟩
        · have tl1 : ((b1 : Int) < (lo : Int)) = False := eq_false (by omega)
          by_cases u1 : hi < b1
          · have tu1 : ((hi : Int) < (b1 : Int)) = True := eq_true (by omega)
            rw [if_pos (show b1 < lo ∨ hi < b1 from .inr u1), if_pos rfl]
            exact ⟨[.cells [.int .u8 lo, .int .u8 hi]], by simp +contextual -dsimp (disch := omega) only [↓goDown, goUp, cr, simprocAttr, u0r, x0, c0, c1, hia, hac, s4, a7, w1, t0, r1, r2, dd, tl1, tu1]⟩
          · have tu1 : ((hi : Int) < (b1 : Int)) = False := eq_false (by omega)
            rw [if_neg (show ¬ (b1 < lo ∨ hi < b1) by omega)]
            rw [if_neg (show ¬ 3 ≤ 2 by decide)]
            by_cases l2 : b2 < 128
            · have tl2 : ((b2 : Int) < (128 : Int)) = True := eq_true (by omega)
              rw [if_pos (show b2 < 128 ∨ 191 < b2 from .inl l2), if_pos rfl]
              exact ⟨[.cells [.int .u8 lo, .int .u8 hi]], by simp +contextual -dsimp (disch := omega) only [↓goDown, goUp, cr, simprocAttr, u0r, x0, c0, c1, hia, hac, s4, a7, w1, t0, r1, r2, dd, tl1, tu1, tl2]⟩
            · have tl2 : ((b2 : Int) < (128 : Int)) = False := eq_false (by omega)
              by_cases u2 : 191 < b2
              · have tu2 : ((191 : Int) < (b2 : Int)) = True := eq_true (by omega)
                rw [if_pos (show b2 < 128 ∨ 191 < b2 from .inr u2), if_pos rfl]
                exact ⟨[.cells [.int .u8 lo, .int .u8 hi]], by simp +contextual -dsimp (disch := omega) only [↓goDown, goUp, cr, simprocAttr, u0r, x0, c0, c1, hia, hac, s4, a7, w1, t0, r1, r2, dd, tl1, tu1, tl2, tu2]⟩
              · have tu2 : ((191 : Int) < (b2 : Int)) = False := eq_false (by omega)
                rw [if_neg (show ¬ (b2 < 128 ∨ 191 < b2) by omega)]
                rw [if_pos (show 3 ≤ 3 by decide)]
                rw [if_neg (show ¬ 3 = 0 by decide)]
                obtain ⟨E, ih⟩ := hcont 3 (by decide)
                refine ⟨[.cells [.int .u8 lo, .int .u8 hi]] ++ E, ?_⟩
                rw [← u7j]
                simp +contextual -dsimp (disch := omega) only [↓goDown, goUp, cr, simprocAttr, u0r, x0, c0, c1, hia, hac, s4, a7, w1, t0, r1, r2, dd, tl1, tu1, tl2, tu2, ih]
    · rw [hs] at a7 w1 ⊢
      simp only [show ((4 : Nat) : Int) = 4 from rfl] at a7 w1
      by_cases q0 : u.length < 4
      · have t0 : ((u.length : Int) < 4) = True := eq_true (by omega)
        rw [if_pos q0, if_pos rfl]
        exact ⟨[.cells [.int .u8 lo, .int .u8 hi]], by simp +contextual -dsimp (disch := omega) only [↓goDown, goUp, cr, simprocAttr, u0r, x0, c0, c1, hia, hac, s4, a7, w1, t0]⟩
      · have t0 : ((u.length : Int) < 4) = False := eq_false (by omega)
        have r1 := r1 (by omega)
        have r2 := r2 (by omega)
        have r3 := r3 (by omega)
        have dd := d4 (by omega)
        rw [if_neg q0]
        by_cases l1 : b1 < lo
        · have tl1 : ((b1 : Int) < (lo : Int)) = True := eq_true (by omega)
          rw [if_pos (show b1 < lo ∨ hi < b1 from .inl l1), if_pos rfl]
          exact ⟨[.cells [.int .u8 lo, .int .u8 hi]], by simp +contextual -dsimp (disch := omega) only [↓goDown, goUp, cr, simprocAttr, u0r, x0, c0, c1, hia, hac, s4, a7, w1, t0, r1, r2, r3, dd, tl1]⟩
        · have tl1 : ((b1 : Int) < (lo : Int)) = False := eq_false (by omega)
          by_cases u1 : hi < b1
          · have tu1 : ((hi : Int) < (b1 : Int)) = True := eq_true (by omega)
            rw [if_pos (show b1 < lo ∨ hi < b1 from .inr u1), if_pos rfl]
            exact ⟨[.cells [.int .u8 lo, .int .u8 hi]], by simp +contextual -dsimp (disch := omega) only [↓goDown, goUp, cr, simprocAttr, u0r, x0, c0, c1, hia, hac, s4, a7, w1, t0, r1, r2, r3, dd, tl1, tu1]⟩
          · have tu1 : ((hi : Int) < (b1 : Int)) = False := eq_false (by omega)
            rw [if_neg (show ¬ (b1 < lo ∨ hi < b1) by omega)]
            rw [if_neg (show ¬ 4 ≤ 2 by decide)]
            by_cases l2 : b2 < 128
            · have tl2 : ((b2 : Int) < (128 : Int)) = True := eq_true (by omega)
              rw [if_pos (show b2 < 128 ∨ 191 < b2 from .inl l2), if_pos rfl]
              exact ⟨[.cells [.int .u8 lo, .int .u8 hi]], by simp +contextual -dsimp (disch := omega) only [↓goDown, goUp, cr, simprocAttr, u0r, x0, c0, c1, hia, hac, s4, a7, w1, t0, r1, r2, r3, dd, tl1, tu1, tl2]⟩
            · have tl2 : ((b2 : Int) < (128 : Int)) = False := eq_false (by omega)
              by_cases u2 : 191 < b2
              · have tu2 : ((191 : Int) < (b2 : Int)) = True := eq_true (by omega)
                rw [if_pos (show b2 < 128 ∨ 191 < b2 from .inr u2), if_pos rfl]
                exact ⟨[.cells [.int .u8 lo, .int .u8 hi]], by simp +contextual -dsimp (disch := omega) only [↓goDown, goUp, cr, simprocAttr, u0r, x0, c0, c1, hia, hac, s4, a7, w1, t0, r1, r2, r3, dd, tl1, tu1, tl2, tu2]⟩
              · have tu2 : ((191 : Int) < (b2 : Int)) = False := eq_false (by omega)
                rw [if_neg (show ¬ (b2 < 128 ∨ 191 < b2) by omega)]
                rw [if_neg (show ¬ 4 ≤ 3 by decide)]
                by_cases l3 : b3 < 128
                · have tl3 : ((b3 : Int) < (128 : Int)) = True := eq_true (by omega)
                  rw [if_pos (show b3 < 128 ∨ 191 < b3 from .inl l3), if_pos rfl]
                  exact ⟨[.cells [.int .u8 lo, .int .u8 hi]], by simp +contextual -dsimp (disch := omega) only [↓goDown, goUp, cr, simprocAttr, u0r, x0, c0, c1, hia, hac, s4, a7, w1, t0, r1, r2, r3, dd, tl1, tu1, tl2, tu2, tl3]⟩
                · have tl3 : ((b3 : Int) < (128 : Int)) = False := eq_false (by omega)
                  by_cases u3 : 191 < b3
                  · have tu3 : ((191 : Int) < (b3 : Int)) = True := eq_true (by omega)
                    rw [if_pos (show b3 < 128 ∨ 191 < b3 from .inr u3), if_pos rfl]
                    exact ⟨[.cells [.int .u8 lo, .int .u8 hi]], by simp +contextual -dsimp (disch := omega) only [↓goDown, goUp, cr, simprocAttr, u0r, x0, c0, c1, hia, hac, s4, a7, w1, t0, r1, r2, r3, dd, tl1, tu1, tl2, tu2, tl3, tu3]⟩
                  · have tu3 : ((191 : Int) < (b3 : Int)) = False := eq_false (by omega)
                    rw [if_neg (show ¬ (b3 < 128 ∨ 191 < b3) by omega)]
                    rw [if_neg (show ¬ 4 = 0 by decide)]
                    obtain ⟨E, ih⟩ := hcont 4 (by decide)
                    refine ⟨[.cells [.int .u8 lo, .int .u8 hi]] ++ E, ?_⟩
                    rw [← u7j]
                    simp +contextual -dsimp (disch := omega) only [↓goDown, goUp, cr, simprocAttr, u0r, x0, c0, c1, hia, hac, s4, a7, w1, t0, r1, r2, r3, dd, tl1, tu1, tl2, tu2, tl3, tu3, ih]
theorem u89 {v2 : PV} : ∀ n, VOk v2 n
  | 0 => fun u H hn hu => by
    obtain rfl : u = [] := List.eq_nil_of_length_eq_zero (by omega)
    refine ⟨[], ?_⟩
    rw [u0q, show hadd H [] = H from List.append_nil _]
    simp +contextual -dsimp (disch := omega) only [↓goDown, goUp, cr, simprocAttr, u0r, List.length_nil, show ((0 : Nat) : Int) = 0 from rfl, Int.lt_irrefl]
    rfl
  | n + 1 => fun u H hn hu => by
    by_cases h : u = []
    · subst h
      refine ⟨[], ?_⟩
      rw [u0q, show hadd H [] = H from List.append_nil _]
      simp +contextual -dsimp (disch := omega) only [↓goDown, goUp, cr, simprocAttr, u0r, List.length_nil, show ((0 : Nat) : Int) = 0 from rfl, Int.lt_irrefl]
      rfl
    · by_cases h0 : bN u 0 < 128
      · exact uoe (v3 := v2) (u89 n) hn hu h h0
      · exact ulx (u89 n) hn hu h (by omega)
theorem uls {u : List UInt8} (hu : u.length < 2 ^ 60) : run (C u0w [SB u]) H = some (.ok (.bool (Lib.validD u)) H) := by
  obtain ⟨E, e⟩ := u89 (v2 := .bool false) u.length u H (Nat.le_refl _) hu
  rw [u4v]
  simp +contextual -dsimp (disch := omega) only [↓goDown, goUp, cr, simprocAttr, e]
theorem u7n {b : List UInt8} : ∀ (f a : Nat), b.length - a < f → (badAt b f a = none ↔ Lib.validD (b.drop a) = true)
  | 0, a, h => by omega
  | f + 1, a, h => by
    rw [badAt]
    by_cases hl : a < b.length
    · rw [if_pos hl]
      have hne : b.drop a ≠ [] := fun g => by have := congrArg List.length g; rw [List.length_drop] at this; simp at this; omega
      by_cases h0 : bN (b.drop a) 0 < 128
      · have e : letL (b.drop a) = 1 := by unfold letL letN; rw [if_pos h0]
        rw [e, if_neg (by decide), u7n f (a + 1) (by omega), Lib.validD_ascii 1 _ (uml hne h0), List.drop_drop]
      · rw [uca hne (by omega)]
        by_cases h1 : letL (b.drop a) = 0
        · rw [if_pos h1, if_pos h1]
          simp
        · rw [if_neg h1, if_neg h1, u7n f _ (by omega), List.drop_drop]
    · rw [if_neg hl, List.drop_eq_nil_of_le (by omega)]
      simp
      rfl
theorem ujr {b : List UInt8} : Lib.validD b = (utfN b).isNone := by
  have h := u7n (b := b) (b.length + 1) 0 (by omega)
  unfold utfN
  rw [List.drop_zero] at h
  cases hb : badAt b (b.length + 1) 0 with
  | none => rw [hb] at h; exact h.mp rfl
  | some x =>
    rw [hb] at h
    cases hv : Lib.validD b with
    | false => rfl
    | true => exact absurd (h.mpr hv) (by simp)
end Go.Proofs.YthnmienjiangkaaDoor.Pi.Q
namespace Go.Proofs.YthnmienjiangkaaDoor.Pi.Q
open Go Go.Proofs.YthnmienjiangkaaDoor.Pi
attribute [local congr] ite_congr
variable {H : Heap} {z : Bool}
theorem uhc {n : Nat} {s : ByteArray} : (PV.str s).low n = true := nrfl rfl
end Go.Proofs.YthnmienjiangkaaDoor.Pi.Q
namespace Go.Proofs.YthnmienjiangkaaDoor.Pi.Q
open Go Go.Proofs.YthnmienjiangkaaDoor.Pi
attribute [local congr] ite_congr
variable {H : Heap} {z : Bool}
def wName (u : List UInt8) : List UInt8 × Nat := if 65536 < u.length then ([], 2) else if (utfN u).isSome then ([], 21) else (putU u.length ++ u, 0)
def putP (u : List UInt8) : PV := .tup [accB (wName u).1, .int .i64 (wName u).2]
theorem ap_str {acc u : List UInt8} {K : Heap} (ha : acc ≠ []) (h : acc.length + u.length ≤ 140737488355328) : run (ap true 1 1 (accB acc) (SB u)) K = some (.ok (accB (acc ++ u)) K) := by
  cases acc with
  | nil => exact absurd rfl ha
  | cons y a =>
    unfold accB accP run ap tail growB
    have h2 : ((byt y :: bytes a).length + (bytes u).length) * max 1 1 ≤ 140737488355328 := by simpa [bytes] using h
    have e : (u.map fun b => PV.int .u8 b.toNat) = bytes u := rfl
    simp only [bytes, List.map_cons, List.cons_append, List.map_append, beq_self_eq_true, Bool.or_true, cond_true, cond_false, Bool.true_and, e] at h2 ⊢
    rw [decide_eq_true h2]
    rfl
theorem low_aB {b : List UInt8} {n : Nat} : (accB b).low n = true := u8f
theorem uho {b : List UInt8} : isTup (accB b) = false := u5g
theorem ug5 {u : List UInt8} : run (C u2k [SB u]) H = some (.ok (putP u) H) := by
  rw [u95]
  unfold putP wName
  by_cases g : 65536 < u.length
  · have g' : ((65536 : Int) < (u.length : Int)) = True := eq_true (by omega)
    rw [if_pos g]
    simp +contextual -dsimp (disch := omega) only [↓goDown, goUp, cr, simprocAttr, u0r, g']
    rfl
  · have g' : ((65536 : Int) < (u.length : Int)) = False := eq_false (by omega)
    rw [if_neg g]
    have hu : u.length < 2 ^ 60 := by omega
    have hv := fun K => uls (H := K) (u := u) (by omega)
    rw [ujr] at hv
    have hp := fun K => umm (H := K) (n := u.length) (by omega)
    have h10 := u5r (n := u.length) (by omega)
    have ha := fun K => ap_str (K := K) (acc := putU u.length) (u := u) umh (by omega)
    have e1 : IntKind.u64.wrap (u.length : Int) = (u.length : Int) := w_u64 (by omega)
    cases ht : utfN u with
    | some x =>
      rw [ht] at hv
      simp only [Option.isNone_some] at hv
      rw [if_pos (show (some x).isSome = true from rfl)]
      simp +contextual -dsimp (disch := omega) only [↓goDown, goUp, cr, simprocAttr, u0r, g', hv, un_not]
      rfl
    | none =>
      rw [ht] at hv
      simp only [Option.isNone_none] at hv
      rw [if_neg (show ¬ (none : Option Nat).isSome = true from by simp)]
      simp +contextual -dsimp (disch := omega) only [↓goDown, goUp, cr, simprocAttr, u0r, g', hv, un_not, e1, hp, ha, low_aB, uho]
theorem up7 {u : List UInt8} {e : TypeId} {o : Bool} : run (cv (.strToBytes e) o (SB u)) H = some (.ok (BS false u) H) := nrfl rfl
theorem uev {u : List UInt8} : run (C u1o [SB u]) H = some (.ok (putP u) H) := by
  rw [u5s]
  unfold putP wName
  by_cases g : 65536 < u.length
  · have g' : ((65536 : Int) < (u.length : Int)) = True := eq_true (by omega)
    rw [if_pos g]
    simp +contextual -dsimp (disch := omega) only [↓goDown, goUp, cr, simprocAttr, u0r, g']
    rfl
  · have g' : ((65536 : Int) < (u.length : Int)) = False := eq_false (by omega)
    rw [if_neg g]
    have hu : u.length < 2 ^ 60 := by omega
    have hv := fun K => uok (H := K) (z := false) (b := u) (by omega)
    have hp := fun K => uja (H := K) (n := u.length) (by omega)
    have h10 := u5r (n := u.length) (by omega)
    have ha := fun K => ap_str (K := K) (acc := putU u.length) (u := u) umh (by omega)
    have e1 : IntKind.u64.wrap (u.length : Int) = (u.length : Int) := w_u64 (by omega)
    have hs := fun K e o => up7 (H := K) (u := u) (e := e) (o := o)
    cases ht : utfN u with
    | some x =>
      rw [ht] at hv
      simp only [utfR] at hv
      rw [if_pos (show (some x).isSome = true from rfl)]
      simp +contextual -dsimp (disch := omega) only [↓goDown, goUp, cr, simprocAttr, u0r, g', hs, hv, un_not]
      rfl
    | none =>
      rw [ht] at hv
      simp only [utfR] at hv
      rw [if_neg (show ¬ (none : Option Nat).isSome = true from by simp)]
      simp +contextual -dsimp (disch := omega) only [↓goDown, goUp, cr, simprocAttr, u0r, g', hs, hv, un_not, e1, hp, ha, low_aB, uho]
end Go.Proofs.YthnmienjiangkaaDoor.Pi.Q
namespace Go.Proofs.YthnmienjiangkaaDoor.Pi.Q
open Go Go.Proofs.YthnmienjiangkaaDoor.Pi
def Sim (n : Nat) (k : List UInt8 → KR) (g : WS → GR) : Prop :=
  (∀ acc, acc.length + n ≤ 140737488355328 →
    (∃ a, a.length ≤ acc.length + n ∧ k acc = .ok () a ∧ g ⟨acc, 0⟩ = .ok () ⟨a, 0⟩) ∨ (∃ e b, e ≠ 0 ∧ b.length ≤ acc.length + n ∧ k acc = .err u0h [0, e] ∧ g ⟨acc, 0⟩ = .ok () ⟨b, e⟩)) ∧
  ∀ acc e, e ≠ 0 → acc.length + n ≤ 140737488355328 → ∃ b, b.length ≤ acc.length + n ∧ g ⟨acc, e⟩ = .ok () ⟨b, e⟩
theorem Sim.mono {n m : Nat} {k : List UInt8 → KR} {g : WS → GR} (h : Sim n k g) (hnm : n ≤ m) : Sim m k g := by
  refine ⟨fun acc ha => ?_, fun acc e he ha => ?_⟩
  · rcases h.1 acc (by omega) with ⟨a, h1, h2⟩ | ⟨e, b, h1, h2, h3⟩
    · exact .inl ⟨a, by omega, h2⟩
    · exact .inr ⟨e, b, h1, by omega, h3⟩
  · obtain ⟨b, h1, h2⟩ := h.2 acc e he (by omega)
    exact ⟨b, by omega, h2⟩
theorem Sim.bind {n m : Nat} {k k' : List UInt8 → KR} {g g' : WS → GR} (h : Sim n k g) (h' : Sim m k' g') : Sim (n + m) (fun acc => (k acc).bind fun _ acc => k' acc) (fun s => (g s).bind fun _ s => g' s) := by
  refine ⟨fun acc ha => ?_, fun acc e he ha => ?_⟩
  · rcases h.1 acc (by omega) with ⟨a, h1, h2, h3⟩ | ⟨e, b, h1, h2, h3, h4⟩
    · simp only [h2, h3, Res.bind]
      rcases h'.1 a (by omega) with ⟨a', q1, q2⟩ | ⟨e, b, q1, q2, q3⟩
      · exact .inl ⟨a', by omega, q2⟩
      · exact .inr ⟨e, b, q1, by omega, q3⟩
    · simp only [h3, h4, Res.bind]
      obtain ⟨b', q1, q2⟩ := h'.2 b e h1 (by omega)
      exact .inr ⟨e, b', h1, by omega, rfl, q2⟩
  · obtain ⟨b, h1, h2⟩ := h.2 acc e he (by omega)
    simp only [h2, Res.bind]
    obtain ⟨b', q1, q2⟩ := h'.2 b e he (by omega)
    exact ⟨b', by omega, q2⟩
theorem u3d {u : List UInt8} {n : Nat} (h : u.length ≤ n) : Sim n (kPut u) (gPut u) := by
  refine ⟨fun acc ha => .inl ⟨acc ++ u, by simp; omega, ?_, ?_⟩, fun acc e he ha => ⟨acc ++ u, by simp; omega, ?_⟩⟩
  · exact if_pos (by omega)
  · exact if_pos (show acc.length + u.length ≤ _ by omega)
  · exact if_pos (show acc.length + u.length ≤ _ by omega)
theorem u7q {b c : Bool} {e : Int} (he : e ≠ 0) (hbc : b = c) : Sim 0 (fun acc => if b = true then .ok () acc else .err u0h [0, e]) (fun s => .ok () (gMust c e s)) := by
  subst hbc
  refine ⟨fun acc ha => ?_, fun acc f hf ha => ⟨acc, by omega, ?_⟩⟩
  · cases b
    · exact .inr ⟨e, acc, he, by omega, rfl, by simp [gMust]⟩
    · exact .inl ⟨acc, by omega, rfl, by simp [gMust]⟩
  · simp [gMust, hf]
theorem upl {n : Nat} {e : Int} {g : WS → GR} (he : e ≠ 0) (h : ∀ acc, acc.length + n ≤ 140737488355328 → ∃ b, b.length ≤ acc.length + n ∧ g ⟨acc, 0⟩ = .ok () ⟨b, e⟩) (h2 : ∀ acc f, f ≠ 0 → acc.length + n ≤ 140737488355328 → ∃ b, b.length ≤ acc.length + n ∧ g ⟨acc, f⟩ = .ok () ⟨b, f⟩) : Sim n (fun _ => .err u0h [0, e]) g :=
  ⟨fun acc ha => by obtain ⟨b, h3, h4⟩ := h acc ha; exact .inr ⟨e, b, he, h3, rfl, h4⟩, h2⟩
def Runs (n : Nat) (g : WS → GR) : Prop := ∀ acc e, acc.length + n ≤ 140737488355328 → e ≠ 0 → ∃ b, b.length ≤ acc.length + n ∧ g ⟨acc, e⟩ = .ok () ⟨b, e⟩
theorem Sim.runs {n : Nat} {k : List UInt8 → KR} {g : WS → GR} (h : Sim n k g) : Runs n g := fun acc e ha he => h.2 acc e he ha
theorem Runs.mono {n m : Nat} {g : WS → GR} (h : Runs n g) (hnm : n ≤ m) : Runs m g := fun acc e ha he => by
  obtain ⟨b, h1, h2⟩ := h acc e (by omega) he
  exact ⟨b, by omega, h2⟩
theorem u5u {n : Nat} {e : Int} {g : WS → GR} (he : e ≠ 0) (hg : Runs n g) : Sim n (fun _ => .err u0h [0, e]) (fun s => g (gMust false e s)) := by
  refine upl he (fun acc ha => ?_) (fun acc f hf ha => ?_)
  · have : gMust false e ⟨acc, 0⟩ = ⟨acc, e⟩ := by simp [gMust]
    rw [this]
    exact hg acc e ha he
  · have : gMust false e ⟨acc, f⟩ = ⟨acc, f⟩ := by simp [gMust, hf]
    rw [this]
    exact hg acc f ha hf
theorem u6g {u : List UInt8} {n : Nat} (h : u.length ≤ n) : Runs n (gPut u) := (u3d h).runs
theorem u1q {n : Nat} {k k' : List UInt8 → KR} {g g' : WS → GR} (h : Sim n k g) (hk : ∀ acc, k' acc = k acc) (hg : ∀ s, g' s = g s) : Sim n k' g' := by
  have e1 : k' = k := funext hk
  have e2 : g' = g := funext hg
  rw [e1, e2]
  exact h
theorem uf9 {n : Int} (hn : n ≤ 9223372036854775807) : Sim 10 (kIndex n) (gIndex n) := by
  by_cases h0 : 0 ≤ n
  · have hten : (putU n.toNat).length ≤ 10 := u5r (by omega)
    by_cases h1 : n ≤ 2147483647
    · refine u1q (u3d (u := putU n.toNat) hten) (fun acc => ?_) (fun s => ?_)
      · unfold kIndex; rw [if_pos ⟨h0, h1⟩]
      · unfold gIndex
        rw [if_pos h0, decide_eq_true (show n < 2147483648 by omega)]
        have : gMust true 4 s = s := by simp [gMust]
        rw [this]
    · refine u1q (u5u (e := 4) (by decide) (u6g (u := putU n.toNat) hten)) (fun acc => ?_) (fun s => ?_)
      · unfold kIndex; rw [if_neg (fun h => h1 h.2)]
      · unfold gIndex
        rw [if_pos h0, decide_eq_false (show ¬ n < 2147483648 by omega)]
  · refine u1q (u5u (n := 10) (e := 4) (g := fun s => .ok () s) (by decide) (fun acc e ha he => ⟨acc, by omega, rfl⟩)) (fun acc => ?_) (fun s => ?_)
    · unfold kIndex; rw [if_neg (fun h => h0 h.1)]
    · unfold gIndex; rw [if_neg h0]
theorem uc9 {h : Int} : ∀ (l : List Int) (i j : Nat), find h l i = some j → h ∈ l
  | [], i, j, e => by cases e
  | a :: r, i, j, e => by
    unfold find at e
    split at e
    · rename_i ha; rw [ha]; simp
    · exact List.mem_cons_of_mem _ (uc9 r (i + 1) j e)
theorem un0 {h : Int} (hh : h < 0) (h2 : -12 ≤ h) : ∃ j, find h absI 0 = some j ∧ j < 12 := by
  have : h = -11 ∨ h = -9 ∨ h = -8 ∨ h = -7 ∨ h = -6 ∨ h = -5 ∨ h = -3 ∨ h = -1 ∨ h = -10 ∨ h = -4 ∨ h = -2 ∨ h = -12 := by omega
  rcases this with rfl | rfl | rfl | rfl | rfl | rfl | rfl | rfl | rfl | rfl | rfl | rfl <;> exact ⟨_, rfl, by decide⟩
theorem uol {h : Int} (h1 : -9223372036854775808 ≤ h) (h2 : h ≤ 9223372036854775807) : Sim 10 (kHeap h) (gHeap h) := by
  by_cases h0 : h < 0
  · by_cases h3 : -12 ≤ h
    · obtain ⟨j, hj, hj12⟩ := un0 h0 h3
      refine u1q (u3d (u := [UInt8.ofNat (105 + j)]) (n := 10) (by simp)) (fun acc => ?_) (fun s => ?_)
      · unfold kHeap; rw [if_neg (by omega), hj]; rfl
      · unfold gHeap
        rw [if_pos h0, decide_eq_true h3]
        have : gMust true 4 s = s := by simp [gMust]
        rw [this]
        unfold codeN
        rw [hj]
    · refine u1q (u5u (e := 4) (by decide) (u6g (u := [UInt8.ofNat (codeN h)]) (n := 10) (by simp))) (fun acc => ?_) (fun s => ?_)
      · unfold kHeap
        rw [if_neg (by omega)]
        have : find h absI 0 = none := by
          cases hf : find h absI 0 with
          | none => rfl
          | some j =>
            have := uc9 _ _ _ hf
            simp [absI] at this
            omega
        rw [this]
        rfl
      · unfold gHeap
        rw [if_pos h0, decide_eq_false h3]
  · have hten : (putS h).length ≤ 10 := uhf 9 h (by omega) (by omega)
    by_cases h3 : h ≤ 2147483647
    · refine u1q (u3d (u := putS h) hten) (fun acc => ?_) (fun s => ?_)
      · unfold kHeap; rw [if_pos (by omega), if_pos h3]
      · unfold gHeap
        rw [if_neg h0, decide_eq_true (show h < 2147483648 by omega)]
        have : gMust true 4 s = s := by simp [gMust]
        rw [this]
    · refine u1q (u5u (e := 4) (by decide) (u6g (u := putS h) hten)) (fun acc => ?_) (fun s => ?_)
      · unfold kHeap; rw [if_pos (by omega), if_neg h3]
      · unfold gHeap
        rw [if_neg h0, decide_eq_false (show ¬ h < 2147483648 by omega)]
def I64 (n : Int) : Prop := -9223372036854775808 ≤ n ∧ n ≤ 9223372036854775807
theorem udu {e : Int} {s : WS} : gMust true e s = s := by simp [gMust]
theorem uks {v : VT} (h1 : I64 v.heap) : Sim 11 (kVal v) (gVal false v) := by
  have hh := uol h1.1 h1.2
  by_cases h5 : v.num = 5
  · cases hn : v.nul with
    | true =>
      by_cases h0 : v.heap < 0
      · refine u1q (hh.mono (by omega)) (fun acc => ?_) (fun s => ?_)
        · unfold kVal; rw [if_pos h5, if_neg (by simp [hn]), if_neg (by omega)]; rfl
        · unfold gVal; rw [if_pos h5, if_pos hn, if_pos h0]
      · refine u1q (Sim.bind (u3d (u := [99]) (n := 1) (by simp)) hh) (fun acc => ?_) (fun s => ?_)
        · unfold kVal; rw [if_pos h5, if_neg (by simp [hn]), if_pos (by omega)]
        · unfold gVal; rw [if_pos h5, if_pos hn, if_neg h0]
    | false =>
      refine u1q (Sim.bind (u3d (u := [100]) (n := 1) (by simp)) hh) (fun acc => ?_) (fun s => ?_)
      · unfold kVal; rw [if_pos h5, if_pos hn]
      · unfold gVal; rw [if_pos h5, if_neg (by simp [hn])]
  · by_cases hc : 1 ≤ v.num ∧ v.num ≤ 4 ∧ v.nul = false ∧ v.heap = 0
    · obtain ⟨c1, c2, c3, c4⟩ := hc
      refine u1q (u3d (u := [UInt8.ofNat (128 - v.num).toNat]) (n := 11) (by simp)) (fun acc => ?_) (fun s => ?_)
      · unfold kVal; rw [if_neg h5, if_pos ⟨c1, c2, c3, c4⟩]
      · unfold gVal
        have e1 : gValOk false v = true := by unfold gValOk; exact decide_eq_true ⟨.inl ⟨c1, c2⟩, c3, c4⟩
        have e2 : gByte v.num = UInt8.ofNat (128 - v.num).toNat := by
          unfold gByte
          rw [if_neg (by omega), if_neg (by omega), w_i64 (by omega), w_u8 (by omega)]
        rw [if_neg h5, e1, udu, e2]
    · refine u1q (u5u (e := 4) (by decide) (u6g (u := [gByte v.num]) (n := 11) (by simp))) (fun acc => ?_) (fun s => ?_)
      · unfold kVal; rw [if_neg h5, if_neg hc]
      · unfold gVal
        have e1 : gValOk false v = false := by
          unfold gValOk
          refine decide_eq_false (fun h => hc ?_)
          obtain ⟨h | h, h3, h4⟩ := h
          · exact ⟨h.1, h.2, h3, h4⟩
          · cases h.1
        rw [if_neg h5, e1]
theorem uo1 {t : Bool} : Sim 1 (kPut [if t then 1 else 0]) (gFlag t) := u3d (by simp)
def CT.w (v : CT) : Prop := (∀ a ∈ v.ps, I64 a.heap) ∧ (∀ a ∈ v.rs, I64 a.heap) ∧ ∀ a ∈ v.fs, I64 a.ty.heap
theorem Runs.bind {n m : Nat} {g g' : WS → GR} (h : Runs n g) (h' : Runs m g') : Runs (n + m) (fun s => (g s).bind fun _ s => g' s) := fun acc e ha he => by
  obtain ⟨b, h1, h2⟩ := h acc e (by omega) he
  simp only [h2, Res.bind]
  obtain ⟨b', q1, q2⟩ := h' b e (by omega) he
  exact ⟨b', by omega, q2⟩
end Go.Proofs.YthnmienjiangkaaDoor.Pi.Q
namespace Go.Proofs.YthnmienjiangkaaDoor.Pi.Q
open Go Go.Proofs.YthnmienjiangkaaDoor.Pi
attribute [local congr] ite_congr
def ST.w (v : ST) : Prop := (∀ a ∈ v.sup, I64 a) ∧ v.comp.w
def RT.w (v : RT) : Prop := ∀ t ∈ v.types, t.w
theorem ubu {v : LT} (h1 : 0 ≤ v.min ∧ v.min < 18446744073709551616) (h2 : 0 ≤ v.max ∧ v.max < 18446744073709551616) : Sim 21 (u7a v) (u79 v) := by
  obtain ⟨wide, min, max, has⟩ := v
  simp only at h1 h2
  have p1 : (putU min.toNat).length ≤ 10 := u5r (by omega)
  have p2 : (putU max.toNat).length ≤ 10 := u5r (by omega)
  have s1 := u3d (u := [if has then (if wide then 5 else 1) else (if wide then 4 else 0)]) (n := 1) (by simp)
  have s2 : Sim (0 + 10) (fun acc => (kMust (wide || decide (min < 4294967296)) acc).bind fun _ acc => kU min acc) (fun s => (Res.ok () (gMust (wide || decide (min < 4294967296)) 4 s) : GR).bind fun _ s => gPut (putU min.toNat) s) := Sim.bind (u7q (by decide) rfl) (u3d p1)
  have s3 : Sim (0 + 10) (fun acc => (if has = true ∨ max = 0 then kMust (wide || decide (max < 4294967296)) acc else .err u0h [0, 4] : KR).bind fun _ acc => if has = true then kU max acc else .ok () acc)
      (fun s => (Res.ok () (gMust (if wide = true ∨ max < 4294967296 then (has || (max == 0)) else false) 4 s) : GR).bind fun _ s => if has = true then gPut (putU max.toNat) s else .ok () s) := by
    refine Sim.bind ?_ ?_
    · refine u1q (u7q (b := (if wide = true ∨ max < 4294967296 then (has || (max == 0)) else false)) (e := 4) (by decide) rfl) (fun acc => ?_) (fun s => rfl)
      by_cases a1 : has = true ∨ max = 0
      · rw [if_pos a1]
        have e1 : (has || (max == 0)) = true := by rcases a1 with h | h <;> simp [h]
        rw [e1]
        unfold kMust
        by_cases a2 : wide = true ∨ max < 4294967296
        · rw [if_pos a2]
          have e2 : (wide || decide (max < 4294967296)) = true := by rcases a2 with h | h <;> simp [h]
          rw [e2]
        · rw [if_neg a2]
          have e2 : (wide || decide (max < 4294967296)) = false := by
            rw [Bool.eq_false_iff]; intro h; apply a2
            simpa using h
          rw [e2]
      · rw [if_neg a1]
        have e1 : (has || (max == 0)) = false := by
          rw [Bool.eq_false_iff]; intro h; apply a1
          simpa using h
        rw [e1]
        simp
    · cases has
      · exact ⟨fun acc ha => .inl ⟨acc, by omega, rfl, rfl⟩, fun acc e he ha => ⟨acc, by omega, rfl⟩⟩
      · exact u3d p2
  refine (u1q (Sim.bind s1 (Sim.bind s2 s3)) (fun acc => ?_) (fun s => ?_)).mono (by omega)
  · unfold u7a
    simp only
    congr 1
    funext _ acc
    cases kMust (wide || decide (min < 4294967296)) acc <;> rfl
  · unfold u79
    simp only
    congr 1
def Both (k : KR) (g : GR) : Prop := (∃ a, k = .ok () a ∧ g = .ok () ⟨a, 0⟩) ∨ (∃ e b, e ≠ 0 ∧ k = .err u0h [0, e] ∧ g = .ok () ⟨b, e⟩)
theorem Sim.both {n : Nat} {k : List UInt8 → KR} {g : WS → GR} (h : Sim n k g) (hn : n ≤ 140737488355328) : Both (k []) (g ⟨[], 0⟩) := by
  rcases h.1 [] (by simpa using hn) with ⟨a, h1, h2, h3⟩ | ⟨e, b, h1, h2, h3, h4⟩
  · exact .inl ⟨a, h2, h3⟩
  · exact .inr ⟨e, b, h1, h3, h4⟩
theorem Both.seen {k : KR} {g : GR} (h : Both k g) : ∃ u e S, OkR k ∧ (∀ K, outW k K = some (.ok (.tup [LZ true 1 (bytes u), .int .i64 e]) K)) ∧ (∃ s, g = .ok () s ∧ doneV s.b s.e = .tup [S, .int .i64 e]) ∧ stripC S = LZ true 1 (bytes u) ∧ (e = 0 ∨ u = []) := by
  rcases h with ⟨a, rfl, rfl⟩ | ⟨e, b, he, rfl, rfl⟩
  · exact ⟨a, 0, accB a, ⟨fun t l h => (by cases h), fun h => (by cases h)⟩, fun K => rfl, ⟨_, rfl, by simp [doneV]⟩, u2g, .inl rfl⟩
  · exact ⟨[], e, .slice false true 0 [], ⟨fun t l h => (by cases h; exact ⟨rfl, _, _, rfl⟩), fun h => (by cases h)⟩, fun K => by simp [outW]; rfl, ⟨_, rfl, by simp [doneV, he]⟩, rfl, .inr rfl⟩
theorem u7p : ∀ u : List UInt8, u4r (bytes u) = some u
  | [] => rfl
  | c :: r => by
    have ih := u7p r
    have e : u4r (bytes (c :: r)) = (u4r (bytes r)).map (UInt8.ofNat ((c.toNat : Int)).toNat :: ·) := rfl
    rw [e, ih]
    simp
theorem cv_LZ {o z : Bool} {u : List UInt8} {K : Heap} : run (cv .bytesToStr o (LZ z 1 (bytes u))) K = some (.ok (.str ⟨u.toArray⟩) K) := by
  have key : ∀ z s xs, xs = bytes u → run (cv .bytesToStr o (.slice false z s xs)) K = some (.ok (.str ⟨u.toArray⟩) K) := fun z s xs h => by
    subst h
    unfold run cv
    simp only [u7p]
    rfl
  cases u with
  | nil => exact key _ _ _ rfl
  | cons c r => exact key _ _ _ rfl
theorem u85 {u : List UInt8} {e : Int} {H : Heap} (h : e = 0 ∨ u = []) : run (C u1s [LZ true 1 (bytes u), .int .i64 e, LZ true 1 (bytes u), .int .i64 e]) H = some (.ok (.bool true) H) := by
  rw [u6x]
  by_cases he : e = 0
  · subst he
    simp +contextual -dsimp (disch := omega) only [↓goDown, goUp, cr, simprocAttr, u40, cv_LZ, str_eq]
  · obtain rfl := h.resolve_left he
    have ez : (e == 0) = false := beq_false_of_ne he
    have hl : ∀ K, run (lnL (LZ true 1 [])) K = some (.ok (.int .i64 0) K) := fun K => rfl
    have hc : ∀ K, run (cv .bytesToStr true (LZ true 1 [])) K = some (.ok (.str ⟨#[]⟩) K) := fun K => cv_LZ (u := [])
    simp +contextual -dsimp (disch := omega) only [↓goDown, goUp, cr, simprocAttr, u40, hc, str_eq, ez, hl]
end Go.Proofs.YthnmienjiangkaaDoor.Pi.Q
namespace Go.Proofs.YthnmienjiangkaaDoor.Pi.Q
open Go Go.Proofs.YthnmienjiangkaaDoor.Pi
attribute [local congr] ite_congr
variable {c : Nat} {H : Heap} {L : List Box} {acc : List UInt8}
def kTable (v : TB) (acc : List UInt8) : KR := (kMust (decide (v.elem.num = 5)) acc).bind fun _ acc => (kVal v.elem acc).bind fun _ acc => u7a v.lim acc
theorem tableK {v : TB} (t1 : 0 ≤ v.lim.min ∧ v.lim.min < 18446744073709551616) (t2 : 0 ≤ v.lim.max ∧ v.lim.max < 18446744073709551616) (hc : c < List.length H) : runK c (C u3a [.ptr c 0, .agg [.int .i64 v.elem.num, .bool v.elem.nul, .int .i64 v.elem.heap, .bool v.lim.wide, .int .u64 v.lim.min, .int .u64 v.lim.max, .bool v.lim.has]]) (St H c (pB acc) L) = outK c H L pB encU (kTable v acc) := liftK (fun H hc => by
  obtain ⟨⟨en, eu, eh⟩, lim⟩ := v
  have hv := fun L acc => valK (c := c) (H := H) (L := L) (acc := acc) (v := ⟨en, eu, eh⟩) hc
  have hl := fun L acc => umw (c := c) (H := H) (L := L) (acc := acc) t1 t2 hc
  simp only at hv hl ⊢
  rw [u7u]
  unfold kTable
  by_cases h5 : en = 5
  · subst h5
    simp +contextual -dsimp (disch := omega) only [↓kDown, kUp, ↓goDown, goUp, cr, simprocAttr, mustK, kMust, hv, hl, u0e] <;> rfl
  · simp +contextual -dsimp (disch := omega) only [↓kDown, kUp, ↓goDown, goUp, cr, simprocAttr, eq_false h5, mustK, kMust, hv, hl, u0e] <;> rfl) hc
def u5j (v : GO) (acc : List UInt8) : KR := (kVal v.ty acc).bind fun _ acc => kPut [if v.mu then 1 else 0] acc
theorem umo {v : GO} (hc : c < List.length H) : runK c (C u2y [.ptr c 0, .agg [.int .i64 v.ty.num, .bool v.ty.nul, .int .i64 v.ty.heap, .bool v.mu]]) (St H c (pB acc) L) = outK c H L pB encU (u5j v acc) := liftK (fun H hc => by
  have hv := fun L acc => valK (c := c) (H := H) (L := L) (acc := acc) (v := v.ty) hc
  have hf := fun L acc => flagK (c := c) (H := H) (L := L) (acc := acc) (b := v.mu) hc
  rw [u7c]
  unfold u5j
  simp +contextual -dsimp (disch := omega) only [↓kDown, kUp, ↓goDown, goUp, cr, simprocAttr, hv, hf, u0e] <;> rfl) hc
def kName (u : List UInt8) (acc : List UInt8) : KR := if (wName u).2 = 0 then kPut (wName u).1 acc else .err u0h [0, (wName u).2]
theorem ap_XZ {acc u : List UInt8} {K : Heap} : run (ap true 1 1 (accB acc) (LZ true 1 (bytes u))) K = if acc.length + u.length ≤ 140737488355328 then some (.ok (accB (acc ++ u)) K) else none := by
  rw [← ap_X]
  cases u with
  | nil => cases acc <;> rfl
  | cons x r => cases acc <;> rfl
theorem u3c {a : List UInt8} : strip (accB a) = LZ true 1 (bytes a) := strip_acc.trans unb
theorem uk4 {s : ByteArray} (hu : s.size ≤ maxLen) {K : Heap} : run (C u2k [.str s]) K = some (.ok (.tup [accB (wName s.data.toList).1, .int .i64 (wName s.data.toList).2]) K) := by
  obtain ⟨⟨u⟩⟩ := s
  exact ug5 (u := u)
theorem ugb {s : ByteArray} (hu : s.size ≤ maxLen) {K : Heap} : run (C u1o [.str s]) K = some (.ok (.tup [accB (wName s.data.toList).1, .int .i64 (wName s.data.toList).2]) K) := by
  obtain ⟨⟨u⟩⟩ := s
  exact uev (u := u)
theorem nameK {s : ByteArray} (hu : s.size ≤ maxLen) (hc : c < List.length H) : runK c (C u2e [.ptr c 0, .str s]) (St H c (pB acc) L) = outK c H L pB encU (kName s.data.toList acc) := liftK (fun H hc => by
  have hp := fun K => uk4 hu (K := K)
  rw [u8a]
  unfold kName kPut
  by_cases h : (wName s.data.toList).2 = 0
  · rw [h] at hp
    simp only [h, if_true]
    simp +contextual -dsimp (disch := omega) only [↓kDown, kUp, ↓goDown, goUp, cr, simprocAttr, toK (m := C u2k [.str s]), hp, show ((0 : Nat) : Int) = 0 from rfl, u5y, u3c, u2g, u2w, u0j, u0v, low_B, ap_XZ, u40, u3j, u4c, u3l, u4e, low_Z, u0e] <;> rfl
  · have h' : (((wName s.data.toList).2 : Nat) : Int) = 0 ↔ False := iff_false_intro (by omega)
    simp only [h, if_false]
    simp +contextual -dsimp (disch := omega) only [↓kDown, kUp, ↓goDown, goUp, cr, simprocAttr, toK (m := C u2k [.str s]), hp, h', u2w, u0j, u0v, low_B, u0e] <;> rfl) hc
abbrev tb0 : TB := ⟨⟨0, false, 0⟩, ⟨false, 0, 0, false⟩⟩
abbrev lt0 : LT := ⟨false, 0, 0, false⟩
abbrev go0 : GO := ⟨⟨0, false, 0⟩, false⟩
def okX (v : XT) : Prop := 0 ≤ v.kind ∧ v.kind ≤ 4 ∧ (v.kind = 0 ∨ v.kind = 4 ∨ v.ty = 0) ∧ (v.kind = 1 ∨ v.tab = tb0) ∧ (v.kind = 2 ∨ v.mem = lt0) ∧ (v.kind = 3 ∨ v.glo = go0)
instance {v : XT} : Decidable (okX v) := by unfold okX; infer_instance
def kExt (v : XT) (acc : List UInt8) : KR := (kMust (decide (okX v)) acc).bind fun _ acc => (kPut [UInt8.ofNat (IntKind.u8.wrap v.kind).toNat] acc).bind fun _ acc =>
  if v.kind = 0 then kIndex v.ty acc else if v.kind = 1 then kTable v.tab acc else if v.kind = 2 then u7a v.mem acc else if v.kind = 3 then u5j v.glo acc else kTag v.ty acc
theorem extK {v : XT} (t1 : 0 ≤ v.tab.lim.min ∧ v.tab.lim.min < 18446744073709551616) (t2 : 0 ≤ v.tab.lim.max ∧ v.tab.lim.max < 18446744073709551616) (m1 : 0 ≤ v.mem.min ∧ v.mem.min < 18446744073709551616) (m2 : 0 ≤ v.mem.max ∧ v.mem.max < 18446744073709551616) (hc : c < List.length H) : runK c (C u2f [.ptr c 0, .agg [.int .i64 v.kind, .int .i64 v.ty, .int .i64 v.tab.elem.num, .bool v.tab.elem.nul, .int .i64 v.tab.elem.heap, .bool v.tab.lim.wide, .int .u64 v.tab.lim.min, .int .u64 v.tab.lim.max, .bool v.tab.lim.has, .bool v.mem.wide, .int .u64 v.mem.min, .int .u64 v.mem.max, .bool v.mem.has, .int .i64 v.glo.ty.num, .bool v.glo.ty.nul, .int .i64 v.glo.ty.heap, .bool v.glo.mu]]) (St H c (pB acc) L) = outK c H L pB encU (kExt v acc) := liftK (fun H hc => by
  obtain ⟨kind, ty, ⟨⟨a1, a2, a3⟩, ⟨b1, b2, b3, b4⟩⟩, ⟨c1, c2, c3, c4⟩, ⟨⟨d1, d2, d3⟩, d4⟩⟩ := v
  have hb := fun n h0 h1 L acc => byteK (c := c) (H := H) (L := L) (acc := acc) (n := n) h0 h1 hc
  have hi := fun L acc => indexK (c := c) (H := H) (L := L) (acc := acc) (n := ty) hc
  have ht := fun L acc => tableK (c := c) (H := H) (L := L) (acc := acc) (v := ⟨⟨a1, a2, a3⟩, ⟨b1, b2, b3, b4⟩⟩) t1 t2 hc
  have hl := fun L acc => umw (c := c) (H := H) (L := L) (acc := acc) (v := ⟨c1, c2, c3, c4⟩) m1 m2 hc
  have hg := fun L acc => umo (c := c) (H := H) (L := L) (acc := acc) (v := ⟨⟨d1, d2, d3⟩, d4⟩) hc
  have hx := fun L acc => tagK (c := c) (H := H) (L := L) (acc := acc) (n := ty) hc
  simp only at ht hl hg ⊢
  rw [u7b]
  unfold kExt
  by_cases k0 : kind = 0
  · subst k0
    have he : ∀ K, run (bi .eql (.struct [.int, .int, .int, .bool, .int, .bool, .int, .int, .bool, .bool, .int, .int, .bool, .int, .bool, .int, .bool]) (.agg [.int .i64 0, .int .i64 ty, .int .i64 a1, .bool a2, .int .i64 a3, .bool b1, .int .u64 b2, .int .u64 b3, .bool b4, .bool c1, .int .u64 c2, .int .u64 c3, .bool c4, .int .i64 d1, .bool d2, .int .i64 d3, .bool d4]) (.agg [.int .i64 0, .int .i64 ty, .int .i64 0, .bool false, .int .i64 0, .bool false, .int .u64 0, .int .u64 0, .bool false, .bool false, .int .u64 0, .int .u64 0, .bool false, .int .i64 0, .bool false, .int .i64 0, .bool false])) K = some (.ok (.bool (decide (okX (⟨0, ty, ⟨⟨a1, a2, a3⟩, ⟨b1, b2, b3, b4⟩⟩, ⟨c1, c2, c3, c4⟩, ⟨⟨d1, d2, d3⟩, d4⟩⟩)))) K) := fun K => u53 (.int (.int (.int (.bool (.int (.bool (.int (.int (.bool (.bool (.int (.int (.bool (.int (.bool (.int (.bool .nil))))))))))))))))) (by unfold okX tb0 lt0 go0; constructor <;> intro h <;> simp_all)
    simp +contextual -dsimp (disch := omega) only [↓kDown, kUp, ↓goDown, goUp, cr, simprocAttr, hb, hi, ht, hl, hg, hx, he, mustK, kMust, u0t, u15, u0e] <;> rfl
  · skip
    by_cases k1 : kind = 1
    · subst k1
      have he : ∀ K, run (bi .eql (.struct [.int, .int, .int, .bool, .int, .bool, .int, .int, .bool, .bool, .int, .int, .bool, .int, .bool, .int, .bool]) (.agg [.int .i64 1, .int .i64 ty, .int .i64 a1, .bool a2, .int .i64 a3, .bool b1, .int .u64 b2, .int .u64 b3, .bool b4, .bool c1, .int .u64 c2, .int .u64 c3, .bool c4, .int .i64 d1, .bool d2, .int .i64 d3, .bool d4]) (.agg [.int .i64 1, .int .i64 0, .int .i64 a1, .bool a2, .int .i64 a3, .bool b1, .int .u64 b2, .int .u64 b3, .bool b4, .bool false, .int .u64 0, .int .u64 0, .bool false, .int .i64 0, .bool false, .int .i64 0, .bool false])) K = some (.ok (.bool (decide (okX (⟨1, ty, ⟨⟨a1, a2, a3⟩, ⟨b1, b2, b3, b4⟩⟩, ⟨c1, c2, c3, c4⟩, ⟨⟨d1, d2, d3⟩, d4⟩⟩)))) K) := fun K => u53 (.int (.int (.int (.bool (.int (.bool (.int (.int (.bool (.bool (.int (.int (.bool (.int (.bool (.int (.bool .nil))))))))))))))))) (by unfold okX tb0 lt0 go0; constructor <;> intro h <;> simp_all)
      simp +contextual -dsimp (disch := omega) only [↓kDown, kUp, ↓goDown, goUp, cr, simprocAttr, hb, hi, ht, hl, hg, hx, he, mustK, kMust, u0t, u15, u0e] <;> rfl
    · skip
      by_cases k2 : kind = 2
      · subst k2
        have he : ∀ K, run (bi .eql (.struct [.int, .int, .int, .bool, .int, .bool, .int, .int, .bool, .bool, .int, .int, .bool, .int, .bool, .int, .bool]) (.agg [.int .i64 2, .int .i64 ty, .int .i64 a1, .bool a2, .int .i64 a3, .bool b1, .int .u64 b2, .int .u64 b3, .bool b4, .bool c1, .int .u64 c2, .int .u64 c3, .bool c4, .int .i64 d1, .bool d2, .int .i64 d3, .bool d4]) (.agg [.int .i64 2, .int .i64 0, .int .i64 0, .bool false, .int .i64 0, .bool false, .int .u64 0, .int .u64 0, .bool false, .bool c1, .int .u64 c2, .int .u64 c3, .bool c4, .int .i64 0, .bool false, .int .i64 0, .bool false])) K = some (.ok (.bool (decide (okX (⟨2, ty, ⟨⟨a1, a2, a3⟩, ⟨b1, b2, b3, b4⟩⟩, ⟨c1, c2, c3, c4⟩, ⟨⟨d1, d2, d3⟩, d4⟩⟩)))) K) := fun K => u53 (.int (.int (.int (.bool (.int (.bool (.int (.int (.bool (.bool (.int (.int (.bool (.int (.bool (.int (.bool .nil))))))))))))))))) (by unfold okX tb0 lt0 go0; constructor <;> intro h <;> simp_all)
        simp +contextual -dsimp (disch := omega) only [↓kDown, kUp, ↓goDown, goUp, cr, simprocAttr, hb, hi, ht, hl, hg, hx, he, mustK, kMust, u0t, u15, u0e] <;> rfl
      · skip
        by_cases k3 : kind = 3
        · subst k3
          have he : ∀ K, run (bi .eql (.struct [.int, .int, .int, .bool, .int, .bool, .int, .int, .bool, .bool, .int, .int, .bool, .int, .bool, .int, .bool]) (.agg [.int .i64 3, .int .i64 ty, .int .i64 a1, .bool a2, .int .i64 a3, .bool b1, .int .u64 b2, .int .u64 b3, .bool b4, .bool c1, .int .u64 c2, .int .u64 c3, .bool c4, .int .i64 d1, .bool d2, .int .i64 d3, .bool d4]) (.agg [.int .i64 3, .int .i64 0, .int .i64 0, .bool false, .int .i64 0, .bool false, .int .u64 0, .int .u64 0, .bool false, .bool false, .int .u64 0, .int .u64 0, .bool false, .int .i64 d1, .bool d2, .int .i64 d3, .bool d4])) K = some (.ok (.bool (decide (okX (⟨3, ty, ⟨⟨a1, a2, a3⟩, ⟨b1, b2, b3, b4⟩⟩, ⟨c1, c2, c3, c4⟩, ⟨⟨d1, d2, d3⟩, d4⟩⟩)))) K) := fun K => u53 (.int (.int (.int (.bool (.int (.bool (.int (.int (.bool (.bool (.int (.int (.bool (.int (.bool (.int (.bool .nil))))))))))))))))) (by unfold okX tb0 lt0 go0; constructor <;> intro h <;> simp_all)
          simp +contextual -dsimp (disch := omega) only [↓kDown, kUp, ↓goDown, goUp, cr, simprocAttr, hb, hi, ht, hl, hg, hx, he, mustK, kMust, u0t, u15, u0e] <;> rfl
        · skip
          by_cases k4 : kind = 4
          · subst k4
            have he : ∀ K, run (bi .eql (.struct [.int, .int, .int, .bool, .int, .bool, .int, .int, .bool, .bool, .int, .int, .bool, .int, .bool, .int, .bool]) (.agg [.int .i64 4, .int .i64 ty, .int .i64 a1, .bool a2, .int .i64 a3, .bool b1, .int .u64 b2, .int .u64 b3, .bool b4, .bool c1, .int .u64 c2, .int .u64 c3, .bool c4, .int .i64 d1, .bool d2, .int .i64 d3, .bool d4]) (.agg [.int .i64 4, .int .i64 ty, .int .i64 0, .bool false, .int .i64 0, .bool false, .int .u64 0, .int .u64 0, .bool false, .bool false, .int .u64 0, .int .u64 0, .bool false, .int .i64 0, .bool false, .int .i64 0, .bool false])) K = some (.ok (.bool (decide (okX (⟨4, ty, ⟨⟨a1, a2, a3⟩, ⟨b1, b2, b3, b4⟩⟩, ⟨c1, c2, c3, c4⟩, ⟨⟨d1, d2, d3⟩, d4⟩⟩)))) K) := fun K => u53 (.int (.int (.int (.bool (.int (.bool (.int (.int (.bool (.bool (.int (.int (.bool (.int (.bool (.int (.bool .nil))))))))))))))))) (by unfold okX tb0 lt0 go0; constructor <;> intro h <;> simp_all)
            simp +contextual -dsimp (disch := omega) only [↓kDown, kUp, ↓goDown, goUp, cr, simprocAttr, hb, hi, ht, hl, hg, hx, he, mustK, kMust, u0t, u15, u0e] <;> rfl
          · have hno : ¬ okX (⟨kind, ty, ⟨⟨a1, a2, a3⟩, ⟨b1, b2, b3, b4⟩⟩, ⟨c1, c2, c3, c4⟩, ⟨⟨d1, d2, d3⟩, d4⟩⟩) := fun h => by have h1 := h.1; have h2 := h.2.1; simp only at h1 h2; omega
            simp +contextual -dsimp (disch := omega) only [↓kDown, kUp, ↓goDown, goUp, cr, simprocAttr, eq_false k0, eq_false k1, eq_false k2, eq_false k3, eq_false k4, mustK, kMust, u0t, decide_eq_false hno, u0e] <;> rfl) hc
def u8c (v : IM) (acc : List UInt8) : KR := (kName v.mod.data.toList acc).bind fun _ acc => (kName v.nm.data.toList acc).bind fun _ acc => kExt v.ext acc
def u8i (v : EX) (acc : List UInt8) : KR := (kName v.nm.data.toList acc).bind fun _ acc => (kMust (decide (0 ≤ v.kind ∧ v.kind ≤ 4)) acc).bind fun _ acc => (kPut [UInt8.ofNat (IntKind.u8.wrap v.kind).toNat] acc).bind fun _ acc => kU v.pl acc
theorem upu {v : TB} {j : Nat} (t1 : 0 ≤ v.lim.min ∧ v.lim.min < 18446744073709551616) (t2 : 0 ≤ v.lim.max ∧ v.lim.max < 18446744073709551616) (hj : hget H j = some (.cells [.int .i64 v.elem.num, .bool v.elem.nul, .int .i64 v.elem.heap, .bool v.lim.wide, .int .u64 v.lim.min, .int .u64 v.lim.max, .bool v.lim.has])) (hjc : j < c) (hc : c < List.length H) : runK c (C u2a [.ptr c 0, .ptr j 0]) (St H c (pB acc) []) = outK c H [] pB encU (kTable v acc) := by
  have hg := fun a L => get_j hj hjc hc (a := a) (L := L)
  have hl := fun L acc => tableK (c := c) (H := H) (L := L) (acc := acc) t1 t2 hc
  rw [u5p]
  simp +contextual -dsimp (disch := omega) only [↓kDown, kUp, ↓goDown, goUp, cr, simprocAttr, hg, hl, u0e]
theorem up0 {v : GO} {j : Nat} (hj : hget H j = some (.cells [.int .i64 v.ty.num, .bool v.ty.nul, .int .i64 v.ty.heap, .bool v.mu])) (hjc : j < c) (hc : c < List.length H) : runK c (C u24 [.ptr c 0, .ptr j 0]) (St H c (pB acc) []) = outK c H [] pB encU (u5j v acc) := by
  have hg := fun a L => get_j hj hjc hc (a := a) (L := L)
  have hl := fun L acc => umo (c := c) (H := H) (L := L) (acc := acc) (v := v) hc
  rw [u5d]
  simp +contextual -dsimp (disch := omega) only [↓kDown, kUp, ↓goDown, goUp, cr, simprocAttr, hg, hl, u0e]
theorem uoa {v : IM} {j : Nat} (t1 : 0 ≤ v.ext.tab.lim.min ∧ v.ext.tab.lim.min < 18446744073709551616) (t2 : 0 ≤ v.ext.tab.lim.max ∧ v.ext.tab.lim.max < 18446744073709551616) (m1 : 0 ≤ v.ext.mem.min ∧ v.ext.mem.min < 18446744073709551616) (m2 : 0 ≤ v.ext.mem.max ∧ v.ext.mem.max < 18446744073709551616) (u1 : v.mod.size ≤ maxLen) (u2 : v.nm.size ≤ maxLen) (hj : hget H j = some (.cells [.str v.mod, .str v.nm, .int .i64 v.ext.kind, .int .i64 v.ext.ty, .int .i64 v.ext.tab.elem.num, .bool v.ext.tab.elem.nul, .int .i64 v.ext.tab.elem.heap, .bool v.ext.tab.lim.wide, .int .u64 v.ext.tab.lim.min, .int .u64 v.ext.tab.lim.max, .bool v.ext.tab.lim.has, .bool v.ext.mem.wide, .int .u64 v.ext.mem.min, .int .u64 v.ext.mem.max, .bool v.ext.mem.has, .int .i64 v.ext.glo.ty.num, .bool v.ext.glo.ty.nul, .int .i64 v.ext.glo.ty.heap, .bool v.ext.glo.mu])) (hjc : j < c) (hc : c < List.length H) : runK c (C u2t [.ptr c 0, .ptr j 0]) (St H c (pB acc) []) = outK c H [] pB encU (u8c v acc) := by
  have hg := fun a L => get_j hj hjc hc (a := a) (L := L)
  have h1 := fun L acc => nameK (c := c) (H := H) (L := L) (acc := acc) u1 hc
  have h2 := fun L acc => nameK (c := c) (H := H) (L := L) (acc := acc) u2 hc
  have h3 := fun L acc => extK (c := c) (H := H) (L := L) (acc := acc) t1 t2 m1 m2 hc
  rw [u6s]
  unfold u8c
  simp +contextual -dsimp (disch := omega) only [↓kDown, kUp, ↓goDown, goUp, cr, simprocAttr, hg, h1, h2, h3, u0e] <;> rfl
theorem uov {v : EX} {j : Nat} (p1 : 0 ≤ v.pl ∧ v.pl < 4294967296) (u1 : v.nm.size ≤ maxLen) (hj : hget H j = some (.cells [.str v.nm, .int .i64 v.kind, .int .u32 v.pl])) (hjc : j < c) (hc : c < List.length H) : runK c (C u2s [.ptr c 0, .ptr j 0]) (St H c (pB acc) []) = outK c H [] pB encU (u8i v acc) := by
  have hg := fun a L => get_j hj hjc hc (a := a) (L := L)
  have h1 := fun L acc => nameK (c := c) (H := H) (L := L) (acc := acc) u1 hc
  have w1 : IntKind.u64.wrap v.pl = v.pl := w_u64 (by omega)
  have hu := fun L acc => uK (c := c) (H := H) (L := L) (acc := acc) (n := v.pl) (by omega) (by omega) hc
  rw [u6w]
  unfold u8i kU
  by_cases a1 : 0 ≤ v.kind
  · by_cases a2 : v.kind ≤ 4
    · have hb := fun L acc => byteK (c := c) (H := H) (L := L) (acc := acc) (n := v.kind) a1 (by omega) hc
      simp +contextual -dsimp (disch := omega) only [↓kDown, kUp, ↓goDown, goUp, cr, simprocAttr, hg, h1, hb, hu, w1, eq_true a1, eq_true a2, mustK, kMust, u0e] <;> rfl
    · simp +contextual -dsimp (disch := omega) only [↓kDown, kUp, ↓goDown, goUp, cr, simprocAttr, hg, h1, hu, w1, eq_true a1, eq_false a2, mustK, kMust, u0e] <;> rfl
  · simp +contextual -dsimp (disch := omega) only [↓kDown, kUp, ↓goDown, goUp, cr, simprocAttr, hg, h1, hu, w1, eq_false a1, mustK, kMust, u0e] <;> rfl
theorem um5 {v : TB} (t1 : 0 ≤ v.lim.min ∧ v.lim.min < 18446744073709551616) (t2 : 0 ≤ v.lim.max ∧ v.lim.max < 18446744073709551616) (hr : OkR (kTable v [])) : run (C u3e [.agg [.int .i64 v.elem.num, .bool v.elem.nul, .int .i64 v.elem.heap, .bool v.lim.wide, .int .u64 v.lim.min, .int .u64 v.lim.max, .bool v.lim.has]]) H = outW (kTable v []) H := by
  have hw := put_1 (H := H) (f1 := u2a) (bx1 := .cells [.int .i64 v.elem.num, .bool v.elem.nul, .int .i64 v.elem.heap, .bool v.lim.wide, .int .u64 v.lim.min, .int .u64 v.lim.max, .bool v.lim.has]) hr (fun K j c hj h1 h2 => upu t1 t2 hj h1 h2)
  rw [u63]
  cases hk : kTable v [] with
  | ok u acc =>
    rw [hk] at hw
    simp only [outW] at hw ⊢
    simp +contextual -dsimp (disch := omega) only [↓goDown, goUp, cr, simprocAttr, run_mf, hw, u4e, u3l, low_Z, u3j, u4c, u40]
  | err t l =>
    obtain ⟨rfl, p, w, rfl⟩ := hr.1 _ _ hk
    rw [hk] at hw
    simp only [outW, if_true] at hw ⊢
    simp +contextual -dsimp (disch := omega) only [↓goDown, goUp, cr, simprocAttr, run_mf, hw, u4e, u3l, low_Z, u3j, u4c, u40]
  | no => exact absurd hk hr.2
theorem ujj {v : GO} (hr : OkR (u5j v [])) : run (C u30 [.agg [.int .i64 v.ty.num, .bool v.ty.nul, .int .i64 v.ty.heap, .bool v.mu]]) H = outW (u5j v []) H := by
  have hw := put_1 (H := H) (f1 := u24) (bx1 := .cells [.int .i64 v.ty.num, .bool v.ty.nul, .int .i64 v.ty.heap, .bool v.mu]) hr (fun K j c hj h1 h2 => up0 hj h1 h2)
  rw [u5x]
  cases hk : u5j v [] with
  | ok u acc =>
    rw [hk] at hw
    simp only [outW] at hw ⊢
    simp +contextual -dsimp (disch := omega) only [↓goDown, goUp, cr, simprocAttr, run_mf, hw, u4e, u3l, low_Z, u3j, u4c, u40]
  | err t l =>
    obtain ⟨rfl, p, w, rfl⟩ := hr.1 _ _ hk
    rw [hk] at hw
    simp only [outW, if_true] at hw ⊢
    simp +contextual -dsimp (disch := omega) only [↓goDown, goUp, cr, simprocAttr, run_mf, hw, u4e, u3l, low_Z, u3j, u4c, u40]
  | no => exact absurd hk hr.2
theorem uk1 {v : IM} (t1 : 0 ≤ v.ext.tab.lim.min ∧ v.ext.tab.lim.min < 18446744073709551616) (t2 : 0 ≤ v.ext.tab.lim.max ∧ v.ext.tab.lim.max < 18446744073709551616) (m1 : 0 ≤ v.ext.mem.min ∧ v.ext.mem.min < 18446744073709551616) (m2 : 0 ≤ v.ext.mem.max ∧ v.ext.mem.max < 18446744073709551616) (u1 : v.mod.size ≤ maxLen) (u2 : v.nm.size ≤ maxLen) (hr : OkR (u8c v [])) : run (C u3x [.agg [.str v.mod, .str v.nm, .int .i64 v.ext.kind, .int .i64 v.ext.ty, .int .i64 v.ext.tab.elem.num, .bool v.ext.tab.elem.nul, .int .i64 v.ext.tab.elem.heap, .bool v.ext.tab.lim.wide, .int .u64 v.ext.tab.lim.min, .int .u64 v.ext.tab.lim.max, .bool v.ext.tab.lim.has, .bool v.ext.mem.wide, .int .u64 v.ext.mem.min, .int .u64 v.ext.mem.max, .bool v.ext.mem.has, .int .i64 v.ext.glo.ty.num, .bool v.ext.glo.ty.nul, .int .i64 v.ext.glo.ty.heap, .bool v.ext.glo.mu]]) H = outW (u8c v []) H := by
  have hw := put_1 (H := H) (f1 := u2t) (bx1 := .cells [.str v.mod, .str v.nm, .int .i64 v.ext.kind, .int .i64 v.ext.ty, .int .i64 v.ext.tab.elem.num, .bool v.ext.tab.elem.nul, .int .i64 v.ext.tab.elem.heap, .bool v.ext.tab.lim.wide, .int .u64 v.ext.tab.lim.min, .int .u64 v.ext.tab.lim.max, .bool v.ext.tab.lim.has, .bool v.ext.mem.wide, .int .u64 v.ext.mem.min, .int .u64 v.ext.mem.max, .bool v.ext.mem.has, .int .i64 v.ext.glo.ty.num, .bool v.ext.glo.ty.nul, .int .i64 v.ext.glo.ty.heap, .bool v.ext.glo.mu]) hr (fun K j c hj h1 h2 => uoa t1 t2 m1 m2 u1 u2 hj h1 h2)
  rw [u82]
  cases hk : u8c v [] with
  | ok u acc =>
    rw [hk] at hw
    simp only [outW] at hw ⊢
    simp +contextual -dsimp (disch := omega) only [↓goDown, goUp, cr, simprocAttr, run_mf, hw, u4e, u3l, low_Z, u3j, u4c, u40]
  | err t l =>
    obtain ⟨rfl, p, w, rfl⟩ := hr.1 _ _ hk
    rw [hk] at hw
    simp only [outW, if_true] at hw ⊢
    simp +contextual -dsimp (disch := omega) only [↓goDown, goUp, cr, simprocAttr, run_mf, hw, u4e, u3l, low_Z, u3j, u4c, u40]
  | no => exact absurd hk hr.2
theorem uk6 {v : EX} (p1 : 0 ≤ v.pl ∧ v.pl < 4294967296) (u1 : v.nm.size ≤ maxLen) (hr : OkR (u8i v [])) : run (C u41 [.agg [.str v.nm, .int .i64 v.kind, .int .u32 v.pl]]) H = outW (u8i v []) H := by
  have hw := put_1 (H := H) (f1 := u2s) (bx1 := .cells [.str v.nm, .int .i64 v.kind, .int .u32 v.pl]) hr (fun K j c hj h1 h2 => uov p1 u1 hj h1 h2)
  rw [u7o]
  cases hk : u8i v [] with
  | ok u acc =>
    rw [hk] at hw
    simp only [outW] at hw ⊢
    simp +contextual -dsimp (disch := omega) only [↓goDown, goUp, cr, simprocAttr, run_mf, hw, u4e, u3l, low_Z, u3j, u4c, u40]
  | err t l =>
    obtain ⟨rfl, p, w, rfl⟩ := hr.1 _ _ hk
    rw [hk] at hw
    simp only [outW, if_true] at hw ⊢
    simp +contextual -dsimp (disch := omega) only [↓goDown, goUp, cr, simprocAttr, run_mf, hw, u4e, u3l, low_Z, u3j, u4c, u40]
  | no => exact absurd hk hr.2
end Go.Proofs.YthnmienjiangkaaDoor.Pi.Q
namespace Go.Proofs.YthnmienjiangkaaDoor.Pi.Q
open Go Go.Proofs.YthnmienjiangkaaDoor.Pi
attribute [local congr] ite_congr
variable {c : Nat} {H : Heap} {L : List Box} {b : List UInt8} {f : Int}
def gTable (v : TB) (s : WS) : GR := (gVal false v.elem (gMust (decide (v.elem.num = 5)) 4 s)).bind fun _ s => u79 v.lim s
theorem ukw {v : TB} (t1 : 0 ≤ v.lim.min ∧ v.lim.min < 18446744073709551616) (t2 : 0 ≤ v.lim.max ∧ v.lim.max < 18446744073709551616) (h1 : v.elem.heap ≤ 9223372036854775807) (hc : c < List.length H) : runK c (C u1g [.ptr c 0, .agg [.int .i64 v.elem.num, .bool v.elem.nul, .int .i64 v.elem.heap, .bool v.lim.wide, .int .u64 v.lim.min, .int .u64 v.lim.max, .bool v.lim.has]]) (St H c (.cells [accB b, .int .i64 f]) L) = outK c H L wB encU (gTable v ⟨b, f⟩) := liftK (fun H hc => by
  obtain ⟨⟨en, eu, eh⟩, lim⟩ := v
  have hv := fun L b f => gvalK (c := c) (H := H) (L := L) (b := b) (f := f) (field := false) (v := ⟨en, eu, eh⟩) h1 hc
  have hl := fun L b f => uik (c := c) (H := H) (L := L) (b := b) (f := f) t1 t2 hc
  simp only at hv hl ⊢
  rw [u4a]
  unfold gTable
  by_cases h5 : en = 5
  · subst h5
    simp +contextual -dsimp (disch := omega) only [↓kDown, kUp, ↓goDown, goUp, cr, simprocAttr, gmustK, hv, hl, u0e, WS.eta] <;> rfl
  · have hb5 : (en == 5) = false := decide_eq_false h5
    simp +contextual -dsimp (disch := omega) only [↓kDown, kUp, ↓goDown, goUp, cr, simprocAttr, eq_false h5, hb5, gmustK, hv, hl, u0e, decide_eq_false h5, WS.eta] <;> rfl) hc
def u8h (v : GO) (s : WS) : GR := (gVal false v.ty s).bind fun _ s => gFlag v.mu s
theorem uie {v : GO} (h1 : v.ty.heap ≤ 9223372036854775807) (hc : c < List.length H) : runK c (C u18 [.ptr c 0, .agg [.int .i64 v.ty.num, .bool v.ty.nul, .int .i64 v.ty.heap, .bool v.mu]]) (St H c (.cells [accB b, .int .i64 f]) L) = outK c H L wB encU (u8h v ⟨b, f⟩) := liftK (fun H hc => by
  have hv := fun L b f => gvalK (c := c) (H := H) (L := L) (b := b) (f := f) (field := false) (v := v.ty) h1 hc
  have hf := fun L b f => gflagK (c := c) (H := H) (L := L) (b := b) (f := f) (t := v.mu) hc
  rw [u46]
  unfold u8h
  simp +contextual -dsimp (disch := omega) only [↓kDown, kUp, ↓goDown, goUp, cr, simprocAttr, hv, hf, u0e, WS.eta] <;> rfl) hc
def gName (u : List UInt8) (s : WS) : GR := gPut (wName u).1 (gMust (decide ((wName u).2 = 0)) (wName u).2 s)
theorem gnameK {s : ByteArray} (hu : s.size ≤ maxLen) (hc : c < List.length H) : runK c (C u11 [.ptr c 0, .str s]) (St H c (.cells [accB b, .int .i64 f]) L) = outK c H L wB encU (gName s.data.toList ⟨b, f⟩) := liftK (fun H hc => by
  have hp := fun K => ugb hu (K := K)
  have hd : ((((wName s.data.toList).2 : Nat) : Int) == 0) = decide ((wName s.data.toList).2 = 0) := decide_eq_decide.mpr (by omega)
  rw [u4h]
  unfold gName gPut
  generalize (wName s.data.toList).1 = u at *
  generalize (wName s.data.toList).2 = e at *
  simp +contextual -dsimp (disch := omega) only [↓kDown, kUp, ↓goDown, goUp, cr, simprocAttr, toK (m := C u1o [.str s]), hp, gmustK, hd, u3c, u2g, u2w, u0j, u0v, low_B, ap_XZ, u40, u3j, u4c, u3l, u4e, low_Z, u0e, WS.eta]) hc
def blP (v : XT) (k : Int) : Prop := (k = 0 ∨ k = 4 ∨ v.ty = 0) ∧ (k = 1 ∨ v.tab = tb0) ∧ (k = 2 ∨ v.mem = lt0) ∧ (k = 3 ∨ v.glo = go0)
instance {v : XT} {k : Int} : Decidable (blP v k) := by unfold blP; infer_instance
theorem u7z {v : XT} {k : Int} {K : Heap} : run (C u3g [.agg [.int .i64 v.kind, .int .i64 v.ty, .int .i64 v.tab.elem.num, .bool v.tab.elem.nul, .int .i64 v.tab.elem.heap, .bool v.tab.lim.wide, .int .u64 v.tab.lim.min, .int .u64 v.tab.lim.max, .bool v.tab.lim.has, .bool v.mem.wide, .int .u64 v.mem.min, .int .u64 v.mem.max, .bool v.mem.has, .int .i64 v.glo.ty.num, .bool v.glo.ty.nul, .int .i64 v.glo.ty.heap, .bool v.glo.mu], .int .i64 k]) K = some (.ok (.bool (decide (blP v k))) K) := by
  obtain ⟨kind, ty, ⟨⟨a1, a2, a3⟩, ⟨b1, b2, b3, b4⟩⟩, ⟨c1, c2, c3, c4⟩, ⟨⟨d1, d2, d3⟩, d4⟩⟩ := v
  have e1 := fun K => u53 (H := K) (ks := [.int, .bool, .int, .bool, .int, .int, .bool]) (x := [.int .i64 a1, .bool a2, .int .i64 a3, .bool b1, .int .u64 b2, .int .u64 b3, .bool b4]) (y := [.int .i64 0, .bool false, .int .i64 0, .bool false, .int .u64 0, .int .u64 0, .bool false]) (.int (.bool (.int (.bool (.int (.int (.bool .nil))))))) (p := (⟨⟨a1, a2, a3⟩, ⟨b1, b2, b3, b4⟩⟩ : TB) = tb0) (by unfold tb0; constructor <;> intro h <;> simp_all)
  have e2 := fun K => u53 (H := K) (ks := [.bool, .int, .int, .bool]) (x := [.bool c1, .int .u64 c2, .int .u64 c3, .bool c4]) (y := [.bool false, .int .u64 0, .int .u64 0, .bool false]) (.bool (.int (.int (.bool .nil)))) (p := (⟨c1, c2, c3, c4⟩ : LT) = lt0) (by unfold lt0; constructor <;> intro h <;> simp_all)
  have e3 := fun K => u53 (H := K) (ks := [.int, .bool, .int, .bool]) (x := [.int .i64 d1, .bool d2, .int .i64 d3, .bool d4]) (y := [.int .i64 0, .bool false, .int .i64 0, .bool false]) (.int (.bool (.int (.bool .nil)))) (p := (⟨⟨d1, d2, d3⟩, d4⟩ : GO) = go0) (by unfold go0; constructor <;> intro h <;> simp_all)
  have hd : decide (blP ⟨kind, ty, ⟨⟨a1, a2, a3⟩, ⟨b1, b2, b3, b4⟩⟩, ⟨c1, c2, c3, c4⟩, ⟨⟨d1, d2, d3⟩, d4⟩⟩ k) = ((decide (k = 0) || (decide (k = 4) || decide (ty = 0))) && ((decide (k = 1) || decide ((⟨⟨a1, a2, a3⟩, ⟨b1, b2, b3, b4⟩⟩ : TB) = tb0)) && ((decide (k = 2) || decide ((⟨c1, c2, c3, c4⟩ : LT) = lt0)) && (decide (k = 3) || decide ((⟨⟨d1, d2, d3⟩, d4⟩ : GO) = go0))))) := by
    rw [Bool.eq_iff_iff]
    simp [blP]
  rw [u68, hd]
  generalize decide ((⟨⟨a1, a2, a3⟩, ⟨b1, b2, b3, b4⟩⟩ : TB) = tb0) = P1 at *
  generalize decide ((⟨c1, c2, c3, c4⟩ : LT) = lt0) = P2 at *
  generalize decide ((⟨⟨d1, d2, d3⟩, d4⟩ : GO) = go0) = P3 at *
  by_cases k0 : k = 0
  · subst k0
    cases P1 <;> cases P2 <;> cases P3 <;> simp +contextual -dsimp (disch := omega) only [↓goDown, goUp, cr, simprocAttr, e1, e2, e3] <;> rfl
  · skip
    by_cases k4 : k = 4
    · subst k4
      cases P1 <;> cases P2 <;> cases P3 <;> simp +contextual -dsimp (disch := omega) only [↓goDown, goUp, cr, simprocAttr, e1, e2, e3] <;> rfl
    · skip
      by_cases k1 : k = 1
      · subst k1
        by_cases t0 : ty = 0
        · subst t0
          cases P1 <;> cases P2 <;> cases P3 <;> simp +contextual -dsimp (disch := omega) only [↓goDown, goUp, cr, simprocAttr, e1, e2, e3] <;> rfl
        · simp +contextual -dsimp (disch := omega) only [↓goDown, goUp, cr, simprocAttr, eq_false t0, decide_eq_false t0, e1, e2, e3] <;> rfl
      · skip
        by_cases k2 : k = 2
        · subst k2
          by_cases t0 : ty = 0
          · subst t0
            cases P1 <;> cases P2 <;> cases P3 <;> simp +contextual -dsimp (disch := omega) only [↓goDown, goUp, cr, simprocAttr, e1, e2, e3] <;> rfl
          · simp +contextual -dsimp (disch := omega) only [↓goDown, goUp, cr, simprocAttr, eq_false t0, decide_eq_false t0, e1, e2, e3] <;> rfl
        · skip
          by_cases k3 : k = 3
          · subst k3
            by_cases t0 : ty = 0
            · subst t0
              cases P1 <;> cases P2 <;> cases P3 <;> simp +contextual -dsimp (disch := omega) only [↓goDown, goUp, cr, simprocAttr, e1, e2, e3] <;> rfl
            · simp +contextual -dsimp (disch := omega) only [↓goDown, goUp, cr, simprocAttr, eq_false t0, decide_eq_false t0, e1, e2, e3] <;> rfl
          · by_cases t0 : ty = 0
            · subst t0
              rw [decide_eq_false k0, decide_eq_false k4, decide_eq_false k1, decide_eq_false k2, decide_eq_false k3]
              cases P1 <;> cases P2 <;> cases P3 <;> simp +contextual -dsimp (disch := omega) only [↓goDown, goUp, cr, simprocAttr, eq_false k0, eq_false k4, eq_false k1, eq_false k2, eq_false k3, e1, e2, e3] <;> rfl
            · rw [decide_eq_false k0, decide_eq_false k4, decide_eq_false t0]
              simp +contextual -dsimp (disch := omega) only [↓goDown, goUp, cr, simprocAttr, eq_false k0, eq_false k4, eq_false k1, eq_false k2, eq_false k3, eq_false t0, e1, e2, e3] <;> rfl
end Go.Proofs.YthnmienjiangkaaDoor.Pi.Q
namespace Go.Proofs.YthnmienjiangkaaDoor.Pi.Q
open Go Go.Proofs.YthnmienjiangkaaDoor.Pi
attribute [local congr] ite_congr
variable {c : Nat} {H : Heap} {L : List Box} {b : List UInt8} {f : Int}
theorem ujl {v : TB} {s : WS} (t1 : 0 ≤ v.lim.min ∧ v.lim.min < 18446744073709551616) (t2 : 0 ≤ v.lim.max ∧ v.lim.max < 18446744073709551616) (e1 : v.elem.heap ≤ 9223372036854775807) (hr : gTable v ⟨[], 0⟩ = .ok () s) : run (C u27 [.agg [.int .i64 v.elem.num, .bool v.elem.nul, .int .i64 v.elem.heap, .bool v.lim.wide, .int .u64 v.lim.min, .int .u64 v.lim.max, .bool v.lim.has]]) H = some (.ok (doneV s.b s.e) H) := by
  have hk := use_2 (H := H) (x := .cells [.int .i64 v.elem.num, .bool v.elem.nul, .int .i64 v.elem.heap, .bool v.lim.wide, .int .u64 v.lim.min, .int .u64 v.lim.max, .bool v.lim.has]) (ukw (L := []) (b := []) (f := 0) t1 t2 e1 new2) hr
  have hp : (.cells [accB [], .int .i64 0] : Box) = .cells [.slice false true 0 [], .int .i64 0] := rfl
  rw [hp] at hk
  have hd := done_2 (H := H) (x := .cells [.int .i64 v.elem.num, .bool v.elem.nul, .int .i64 v.elem.heap, .bool v.lim.wide, .int .u64 v.lim.min, .int .u64 v.lim.max, .bool v.lim.has]) (b := s.b) (f := s.e)
  rw [u4k]
  revert hd
  refine u21 (fun t => run (C u00 [.ptr (List.length H + 1) 0]) (hadd H [.cells [.int .i64 v.elem.num, .bool v.elem.nul, .int .i64 v.elem.heap, .bool v.lim.wide, .int .u64 v.lim.min, .int .u64 v.lim.max, .bool v.lim.has], .cells [accB s.b, .int .i64 s.e]]) = some (.ok t (hadd H [.cells [.int .i64 v.elem.num, .bool v.elem.nul, .int .i64 v.elem.heap, .bool v.lim.wide, .int .u64 v.lim.min, .int .u64 v.lim.max, .bool v.lim.has], doneB s.b s.e])) → _ = some (Out.ok t H)) ?_ ?_ <;> intro hd <;>
    simp +contextual -dsimp (disch := omega) only [↓goDown, goUp, cr, simprocAttr, hk, hd, u2w, low_B]
theorem uha {v : GO} {s : WS} (e1 : v.ty.heap ≤ 9223372036854775807) (hr : u8h v ⟨[], 0⟩ = .ok () s) : run (C u23 [.agg [.int .i64 v.ty.num, .bool v.ty.nul, .int .i64 v.ty.heap, .bool v.mu]]) H = some (.ok (doneV s.b s.e) H) := by
  have hk := use_2 (H := H) (x := .cells [.int .i64 v.ty.num, .bool v.ty.nul, .int .i64 v.ty.heap, .bool v.mu]) (uie (L := []) (b := []) (f := 0) e1 new2) hr
  have hp : (.cells [accB [], .int .i64 0] : Box) = .cells [.slice false true 0 [], .int .i64 0] := rfl
  rw [hp] at hk
  have hd := done_2 (H := H) (x := .cells [.int .i64 v.ty.num, .bool v.ty.nul, .int .i64 v.ty.heap, .bool v.mu]) (b := s.b) (f := s.e)
  rw [u49]
  revert hd
  refine u21 (fun t => run (C u00 [.ptr (List.length H + 1) 0]) (hadd H [.cells [.int .i64 v.ty.num, .bool v.ty.nul, .int .i64 v.ty.heap, .bool v.mu], .cells [accB s.b, .int .i64 s.e]]) = some (.ok t (hadd H [.cells [.int .i64 v.ty.num, .bool v.ty.nul, .int .i64 v.ty.heap, .bool v.mu], doneB s.b s.e])) → _ = some (Out.ok t H)) ?_ ?_ <;> intro hd <;>
    simp +contextual -dsimp (disch := omega) only [↓goDown, goUp, cr, simprocAttr, hk, hd, u2w, low_B]
theorem u78 {r : GR} {g : WS → GR} {s : WS} (h : (r.bind fun _ s => g s) = .ok () s) : ∃ s1, r = .ok () s1 ∧ g s1 = .ok () s := by
  cases r with
  | ok u s1 => exact ⟨s1, rfl, h⟩
  | err t l => cases h
  | no => cases h
theorem put_ok {u : List UInt8} {s s1 : WS} (h : gPut u s = .ok () s1) : s.b.length + u.length ≤ 140737488355328 ∧ s1 = ⟨s.b ++ u, s.e⟩ := by
  unfold gPut at h
  by_cases hl : s.b.length + u.length ≤ 140737488355328
  · rw [if_pos hl] at h
    injection h with h1 h2
    exact ⟨hl, h2.symm⟩
  · rw [if_neg hl] at h; cases h
def ulc (v : EX) (s : WS) : GR := (gName v.nm.data.toList s).bind fun _ s => (gPut [UInt8.ofNat (IntKind.u8.wrap v.kind).toNat] (gMust (decide (0 ≤ v.kind ∧ v.kind ≤ 4)) 4 s)).bind fun _ s => gPut (putU v.pl.toNat) s
theorem ugg {v : EX} {s : WS} (p1 : 0 ≤ v.pl ∧ v.pl < 4294967296) (u1 : v.nm.size ≤ maxLen) (hr : ulc v ⟨[], 0⟩ = .ok () s) : run (C u2l [.agg [.str v.nm, .int .i64 v.kind, .int .u32 v.pl]]) H = some (.ok (doneV s.b s.e) H) := by
  obtain ⟨s1, r1, hr⟩ := u78 hr
  obtain ⟨s2, r2, r3⟩ := u78 hr
  have hk := use_2 (H := H) (x := .cells [.str v.nm, .int .i64 v.kind, .int .u32 v.pl]) (gnameK (L := []) (b := []) (f := 0) u1 new2) r1
  have hp : (.cells [accB [], .int .i64 0] : Box) = .cells [.slice false true 0 [], .int .i64 0] := rfl
  rw [hp] at hk
  have hm := fun p => use_2 (H := H) (x := .cells [.str v.nm, .int .i64 v.kind, .int .u32 v.pl]) (gmustK (L := []) (b := s1.b) (f := s1.e) (ok := p) (e := 4) new2) rfl
  simp only [WS.eta] at hm
  obtain ⟨l2, rfl⟩ := put_ok r2
  generalize hs2 : gMust (decide (0 ≤ v.kind ∧ v.kind ≤ 4)) 4 s1 = s2 at *
  have l2 : s2.b.length + 1 ≤ 140737488355328 := l2
  have ha := fun K => (ap_X1 (acc := s2.b) (c := UInt8.ofNat (IntKind.u8.wrap v.kind).toNat) (K := K)).trans (if_pos l2)
  have hw := fun K => udd (x := v.kind) (K := K)
  have w1 : IntKind.u64.wrap v.pl = v.pl := w_u64 (by omega)
  have hu := use_2 (H := H) (x := .cells [.str v.nm, .int .i64 v.kind, .int .u32 v.pl]) (guK (L := []) (b := s2.b ++ [UInt8.ofNat (IntKind.u8.wrap v.kind).toNat]) (f := s2.e) (n := v.pl) (by omega) (by omega) new2) r3
  have hd := done_2 (H := H) (x := .cells [.str v.nm, .int .i64 v.kind, .int .u32 v.pl]) (b := s.b) (f := s.e)
  rw [u59]
  revert hd
  by_cases a1 : 0 ≤ v.kind
  · by_cases a2 : v.kind ≤ 4
    · have hm := hm true
      rw [decide_eq_true ⟨a1, a2⟩] at hs2
      rw [hs2] at hm
      have w2 : IntKind.u8.wrap v.kind = v.kind := w_u8 (by omega)
      rw [w2] at ha hw hu
      refine u21 (fun t => run (C u00 [.ptr (List.length H + 1) 0]) (hadd H [.cells [.str v.nm, .int .i64 v.kind, .int .u32 v.pl], .cells [accB s.b, .int .i64 s.e]]) = some (.ok t (hadd H [.cells [.str v.nm, .int .i64 v.kind, .int .u32 v.pl], doneB s.b s.e])) → _ = some (Out.ok t H)) ?_ ?_ <;> intro hd <;>
        simp +contextual -dsimp (disch := omega) only [↓goDown, goUp, cr, simprocAttr, hk, hm, eq_true a1, eq_true a2, ha, hw, w2, w1, hu, hd, u2w, low_B, u0j, u0v, u2g, u3c]
    · have hm := hm false
      rw [decide_eq_false (fun h => a2 h.2)] at hs2
      rw [hs2] at hm
      refine u21 (fun t => run (C u00 [.ptr (List.length H + 1) 0]) (hadd H [.cells [.str v.nm, .int .i64 v.kind, .int .u32 v.pl], .cells [accB s.b, .int .i64 s.e]]) = some (.ok t (hadd H [.cells [.str v.nm, .int .i64 v.kind, .int .u32 v.pl], doneB s.b s.e])) → _ = some (Out.ok t H)) ?_ ?_ <;> intro hd <;>
        simp +contextual -dsimp (disch := omega) only [↓goDown, goUp, cr, simprocAttr, hk, hm, eq_true a1, eq_false a2, ha, hw, w1, hu, hd, u2w, low_B, u0j, u0v, u2g, u3c]
  · have hm := hm false
    rw [decide_eq_false (fun h => a1 h.1)] at hs2
    rw [hs2] at hm
    refine u21 (fun t => run (C u00 [.ptr (List.length H + 1) 0]) (hadd H [.cells [.str v.nm, .int .i64 v.kind, .int .u32 v.pl], .cells [accB s.b, .int .i64 s.e]]) = some (.ok t (hadd H [.cells [.str v.nm, .int .i64 v.kind, .int .u32 v.pl], doneB s.b s.e])) → _ = some (Out.ok t H)) ?_ ?_ <;> intro hd <;>
      simp +contextual -dsimp (disch := omega) only [↓goDown, goUp, cr, simprocAttr, hk, hm, eq_false a1, ha, hw, w1, hu, hd, u2w, low_B, u0j, u0v, u2g, u3c]
end Go.Proofs.YthnmienjiangkaaDoor.Pi.Q
namespace Go.Proofs.YthnmienjiangkaaDoor.Pi.Q
open Go Go.Proofs.YthnmienjiangkaaDoor.Pi
attribute [local congr] ite_congr
variable {c : Nat} {H : Heap} {L : List Box} {b : List UInt8} {f : Int}
theorem St_3 {x y z : Box} : hadd H [x, y, z] = St (hadd H [x, .dead]) (List.length H + 1) y [z] := by
  unfold St hadd hset
  rw [List.set_append_right _ _ (by omega)]
  simp
theorem use_3 {m : M PV} {x y z : Box} {r : GR} {s : WS} (h : runK (List.length H + 1) m (St (hadd H [x, .dead]) (List.length H + 1) y [z]) = outK (List.length H + 1) (hadd H [x, .dead]) [z] wB encU r) (hr : r = .ok () s) : run m (hadd H [x, y, z]) = some (.ok (.tup []) (hadd H [x, wB s, z])) := by
  subst hr
  rw [← St_3, u87, ← St_3] at h
  exact u9q h
theorem done_3 {x z : Box} : run (C u00 [.ptr (List.length H + 1) 0]) (hadd H [x, .cells [accB b, .int .i64 f], z]) = some (.ok (doneV b f) (hadd H [x, doneB b f, z])) := by
  have := ul7 (H := hadd H [x, .dead]) (c := List.length H + 1) (L := [z]) (b := b) (f := f) (by rw [u4u]; simp)
  rwa [← St_3, ← St_3] at this
def gTail (v : XT) (s : WS) : GR := if v.kind = 0 then gIndex v.ty s else if v.kind = 1 then gTable v.tab s else if v.kind = 2 then u79 v.mem s else if v.kind = 3 then u8h v.glo s else if v.kind = 4 then (gPut [0] s).bind fun _ s => gIndex v.ty s else .ok () s
def gExt (v : XT) (s : WS) : GR := (gPut [UInt8.ofNat (IntKind.u8.wrap v.kind).toNat] (gMust (decide (okX v)) 4 s)).bind fun _ s => gTail v s
def uma (v : IM) (s : WS) : GR := (gName v.mod.data.toList s).bind fun _ s => (gName v.nm.data.toList s).bind fun _ s => gExt v.ext s
theorem okX_bl {v : XT} (h0 : 0 ≤ v.kind) (h1 : v.kind ≤ 4) : decide (okX v) = decide (blP v v.kind) := decide_eq_decide.mpr ⟨fun h => h.2.2, fun h => ⟨h0, h1, h⟩⟩
theorem ug9 {v : IM} {s : WS} (t1 : 0 ≤ v.ext.tab.lim.min ∧ v.ext.tab.lim.min < 18446744073709551616) (t2 : 0 ≤ v.ext.tab.lim.max ∧ v.ext.tab.lim.max < 18446744073709551616) (m1 : 0 ≤ v.ext.mem.min ∧ v.ext.mem.min < 18446744073709551616) (m2 : 0 ≤ v.ext.mem.max ∧ v.ext.mem.max < 18446744073709551616) (u1 : v.mod.size ≤ maxLen) (u2 : v.nm.size ≤ maxLen) (x1 : v.ext.ty ≤ 9223372036854775807) (x2 : v.ext.tab.elem.heap ≤ 9223372036854775807) (x3 : v.ext.glo.ty.heap ≤ 9223372036854775807) (hr : uma v ⟨[], 0⟩ = .ok () s) : run (C u1y [.agg [.str v.mod, .str v.nm, .int .i64 v.ext.kind, .int .i64 v.ext.ty, .int .i64 v.ext.tab.elem.num, .bool v.ext.tab.elem.nul, .int .i64 v.ext.tab.elem.heap, .bool v.ext.tab.lim.wide, .int .u64 v.ext.tab.lim.min, .int .u64 v.ext.tab.lim.max, .bool v.ext.tab.lim.has, .bool v.ext.mem.wide, .int .u64 v.ext.mem.min, .int .u64 v.ext.mem.max, .bool v.ext.mem.has, .int .i64 v.ext.glo.ty.num, .bool v.ext.glo.ty.nul, .int .i64 v.ext.glo.ty.heap, .bool v.ext.glo.mu]]) H = some (.ok (doneV s.b s.e) H) := by
  obtain ⟨mod, nm, ⟨kind, ty, ⟨⟨a1, a2, a3⟩, ⟨b1, b2, b3, b4⟩⟩, ⟨c1, c2, c3, c4⟩, ⟨⟨d1, d2, d3⟩, d4⟩⟩⟩ := v
  simp only at t1 t2 m1 m2 u1 u2 x1 x2 x3 ⊢
  obtain ⟨s1, r1, hr⟩ := u78 hr
  obtain ⟨s2, r2, hr⟩ := u78 hr
  obtain ⟨s4, r4, r5⟩ := u78 hr
  simp only at r1 r2 r4 r5
  obtain ⟨l4, rfl⟩ := put_ok r4
  have hp : (.cells [accB [], .int .i64 0] : Box) = .cells [.slice false true 0 [], .int .i64 0] := rfl
  by_cases k0 : kind = 0
  · subst k0
    have hk := use_2 (H := H) (x := .cells [.str mod, .str nm, .int .i64 0, .int .i64 ty, .int .i64 a1, .bool a2, .int .i64 a3, .bool b1, .int .u64 b2, .int .u64 b3, .bool b4, .bool c1, .int .u64 c2, .int .u64 c3, .bool c4, .int .i64 d1, .bool d2, .int .i64 d3, .bool d4]) (gnameK (L := []) (b := []) (f := 0) u1 new2) r1
    rw [hp] at hk
    have hk2 := use_2 (H := H) (x := .cells [.str mod, .str nm, .int .i64 0, .int .i64 ty, .int .i64 a1, .bool a2, .int .i64 a3, .bool b1, .int .u64 b2, .int .u64 b3, .bool b4, .bool c1, .int .u64 c2, .int .u64 c3, .bool c4, .int .i64 d1, .bool d2, .int .i64 d3, .bool d4]) (gnameK (L := []) (b := s1.b) (f := s1.e) u2 new2) r2
    have hm := fun p => use_3 (H := H) (x := .cells [.str mod, .str nm, .int .i64 0, .int .i64 ty, .int .i64 a1, .bool a2, .int .i64 a3, .bool b1, .int .u64 b2, .int .u64 b3, .bool b4, .bool c1, .int .u64 c2, .int .u64 c3, .bool c4, .int .i64 d1, .bool d2, .int .i64 d3, .bool d4]) (z := .cells [.int .i64 0, .int .i64 ty, .int .i64 a1, .bool a2, .int .i64 a3, .bool b1, .int .u64 b2, .int .u64 b3, .bool b4, .bool c1, .int .u64 c2, .int .u64 c3, .bool c4, .int .i64 d1, .bool d2, .int .i64 d3, .bool d4]) (gmustK (b := s2.b) (f := s2.e) (ok := p) (e := 4) new2) rfl
    simp only [WS.eta] at hm
    have hb := fun K => u7z (K := K) (v := ⟨0, ty, ⟨⟨a1, a2, a3⟩, ⟨b1, b2, b3, b4⟩⟩, ⟨c1, c2, c3, c4⟩, ⟨⟨d1, d2, d3⟩, d4⟩⟩) (k := 0)
    rw [okX_bl (v := ⟨0, ty, ⟨⟨a1, a2, a3⟩, ⟨b1, b2, b3, b4⟩⟩, ⟨c1, c2, c3, c4⟩, ⟨⟨d1, d2, d3⟩, d4⟩⟩) (by show (0 : Int) ≤ 0; decide) (by show (0 : Int) ≤ 4; decide)] at r5 l4
    have hm := hm (decide (blP (⟨0, ty, ⟨⟨a1, a2, a3⟩, ⟨b1, b2, b3, b4⟩⟩, ⟨c1, c2, c3, c4⟩, ⟨⟨d1, d2, d3⟩, d4⟩⟩) 0))
    generalize gMust (decide (blP (⟨0, ty, ⟨⟨a1, a2, a3⟩, ⟨b1, b2, b3, b4⟩⟩, ⟨c1, c2, c3, c4⟩, ⟨⟨d1, d2, d3⟩, d4⟩⟩) 0)) 4 s2 = s3 at *
    generalize decide (blP (⟨0, ty, ⟨⟨a1, a2, a3⟩, ⟨b1, b2, b3, b4⟩⟩, ⟨c1, c2, c3, c4⟩, ⟨⟨d1, d2, d3⟩, d4⟩⟩) 0) = bp at *
    have eb : UInt8.ofNat (IntKind.u8.wrap 0).toNat = 0 := by decide
    rw [eb] at r5
    have ha := fun K => (ap_X1 (acc := s3.b) (c := 0) (K := K)).trans (if_pos l4)
    have hw : ∀ K, bsR true none [.int .u8 0] K = some (.ok (.slice true false 1 [byt 0]) K) := fun K => u20 (n := 0) (K := K) (by omega)
    have hw2 : ∀ K, run (bs true none [.int .u8 0]) K = some (.ok (.slice true false 1 [byt 0]) K) := fun K => bs_byt (n := 0) (K := K) (by omega)
    have r5 : gIndex ty ⟨s3.b ++ [0], s3.e⟩ = .ok () s := r5
    have ht := use_3 (H := H) (x := .cells [.str mod, .str nm, .int .i64 0, .int .i64 ty, .int .i64 a1, .bool a2, .int .i64 a3, .bool b1, .int .u64 b2, .int .u64 b3, .bool b4, .bool c1, .int .u64 c2, .int .u64 c3, .bool c4, .int .i64 d1, .bool d2, .int .i64 d3, .bool d4]) (z := .cells [.int .i64 0, .int .i64 ty, .int .i64 a1, .bool a2, .int .i64 a3, .bool b1, .int .u64 b2, .int .u64 b3, .bool b4, .bool c1, .int .u64 c2, .int .u64 c3, .bool c4, .int .i64 d1, .bool d2, .int .i64 d3, .bool d4]) (um1 (b := s3.b ++ [0]) (f := s3.e) (n := ty) x1 new2) r5
    have hd := done_3 (H := H) (x := .cells [.str mod, .str nm, .int .i64 0, .int .i64 ty, .int .i64 a1, .bool a2, .int .i64 a3, .bool b1, .int .u64 b2, .int .u64 b3, .bool b4, .bool c1, .int .u64 c2, .int .u64 c3, .bool c4, .int .i64 d1, .bool d2, .int .i64 d3, .bool d4]) (z := .cells [.int .i64 0, .int .i64 ty, .int .i64 a1, .bool a2, .int .i64 a3, .bool b1, .int .u64 b2, .int .u64 b3, .bool b4, .bool c1, .int .u64 c2, .int .u64 c3, .bool c4, .int .i64 d1, .bool d2, .int .i64 d3, .bool d4]) (b := s.b) (f := s.e)
    rw [u0x]
    revert hd
    refine u21 (fun t => run (C u00 [.ptr (List.length H + 1) 0]) (hadd H [.cells [.str mod, .str nm, .int .i64 0, .int .i64 ty, .int .i64 a1, .bool a2, .int .i64 a3, .bool b1, .int .u64 b2, .int .u64 b3, .bool b4, .bool c1, .int .u64 c2, .int .u64 c3, .bool c4, .int .i64 d1, .bool d2, .int .i64 d3, .bool d4], .cells [accB s.b, .int .i64 s.e], .cells [.int .i64 0, .int .i64 ty, .int .i64 a1, .bool a2, .int .i64 a3, .bool b1, .int .u64 b2, .int .u64 b3, .bool b4, .bool c1, .int .u64 c2, .int .u64 c3, .bool c4, .int .i64 d1, .bool d2, .int .i64 d3, .bool d4]]) = some (.ok t (hadd H [.cells [.str mod, .str nm, .int .i64 0, .int .i64 ty, .int .i64 a1, .bool a2, .int .i64 a3, .bool b1, .int .u64 b2, .int .u64 b3, .bool b4, .bool c1, .int .u64 c2, .int .u64 c3, .bool c4, .int .i64 d1, .bool d2, .int .i64 d3, .bool d4], doneB s.b s.e, .cells [.int .i64 0, .int .i64 ty, .int .i64 a1, .bool a2, .int .i64 a3, .bool b1, .int .u64 b2, .int .u64 b3, .bool b4, .bool c1, .int .u64 c2, .int .u64 c3, .bool c4, .int .i64 d1, .bool d2, .int .i64 d3, .bool d4]])) → _ = some (Out.ok t H)) ?_ ?_ <;> intro hd <;>
      simp +contextual -dsimp (disch := omega) only [↓goDown, goUp, cr, simprocAttr, hk, hk2, hm, hb, ha, hw, hw2, hd, u2w, low_B, u0j, u0v, u2g, u3c, u0b, ht]
  · skip
    by_cases k1 : kind = 1
    · subst k1
      have hk := use_2 (H := H) (x := .cells [.str mod, .str nm, .int .i64 1, .int .i64 ty, .int .i64 a1, .bool a2, .int .i64 a3, .bool b1, .int .u64 b2, .int .u64 b3, .bool b4, .bool c1, .int .u64 c2, .int .u64 c3, .bool c4, .int .i64 d1, .bool d2, .int .i64 d3, .bool d4]) (gnameK (L := []) (b := []) (f := 0) u1 new2) r1
      rw [hp] at hk
      have hk2 := use_2 (H := H) (x := .cells [.str mod, .str nm, .int .i64 1, .int .i64 ty, .int .i64 a1, .bool a2, .int .i64 a3, .bool b1, .int .u64 b2, .int .u64 b3, .bool b4, .bool c1, .int .u64 c2, .int .u64 c3, .bool c4, .int .i64 d1, .bool d2, .int .i64 d3, .bool d4]) (gnameK (L := []) (b := s1.b) (f := s1.e) u2 new2) r2
      have hm := fun p => use_3 (H := H) (x := .cells [.str mod, .str nm, .int .i64 1, .int .i64 ty, .int .i64 a1, .bool a2, .int .i64 a3, .bool b1, .int .u64 b2, .int .u64 b3, .bool b4, .bool c1, .int .u64 c2, .int .u64 c3, .bool c4, .int .i64 d1, .bool d2, .int .i64 d3, .bool d4]) (z := .cells [.int .i64 1, .int .i64 ty, .int .i64 a1, .bool a2, .int .i64 a3, .bool b1, .int .u64 b2, .int .u64 b3, .bool b4, .bool c1, .int .u64 c2, .int .u64 c3, .bool c4, .int .i64 d1, .bool d2, .int .i64 d3, .bool d4]) (gmustK (b := s2.b) (f := s2.e) (ok := p) (e := 4) new2) rfl
      simp only [WS.eta] at hm
      have hb := fun K => u7z (K := K) (v := ⟨1, ty, ⟨⟨a1, a2, a3⟩, ⟨b1, b2, b3, b4⟩⟩, ⟨c1, c2, c3, c4⟩, ⟨⟨d1, d2, d3⟩, d4⟩⟩) (k := 1)
      rw [okX_bl (v := ⟨1, ty, ⟨⟨a1, a2, a3⟩, ⟨b1, b2, b3, b4⟩⟩, ⟨c1, c2, c3, c4⟩, ⟨⟨d1, d2, d3⟩, d4⟩⟩) (by show (0 : Int) ≤ 1; decide) (by show (1 : Int) ≤ 4; decide)] at r5 l4
      have hm := hm (decide (blP (⟨1, ty, ⟨⟨a1, a2, a3⟩, ⟨b1, b2, b3, b4⟩⟩, ⟨c1, c2, c3, c4⟩, ⟨⟨d1, d2, d3⟩, d4⟩⟩) 1))
      generalize gMust (decide (blP (⟨1, ty, ⟨⟨a1, a2, a3⟩, ⟨b1, b2, b3, b4⟩⟩, ⟨c1, c2, c3, c4⟩, ⟨⟨d1, d2, d3⟩, d4⟩⟩) 1)) 4 s2 = s3 at *
      generalize decide (blP (⟨1, ty, ⟨⟨a1, a2, a3⟩, ⟨b1, b2, b3, b4⟩⟩, ⟨c1, c2, c3, c4⟩, ⟨⟨d1, d2, d3⟩, d4⟩⟩) 1) = bp at *
      have eb : UInt8.ofNat (IntKind.u8.wrap 1).toNat = 1 := by decide
      rw [eb] at r5
      have ha := fun K => (ap_X1 (acc := s3.b) (c := 1) (K := K)).trans (if_pos l4)
      have hw : ∀ K, bsR true none [.int .u8 1] K = some (.ok (.slice true false 1 [byt 1]) K) := fun K => u20 (n := 1) (K := K) (by omega)
      have hw2 : ∀ K, run (bs true none [.int .u8 1]) K = some (.ok (.slice true false 1 [byt 1]) K) := fun K => bs_byt (n := 1) (K := K) (by omega)
      have r5 : gTable ⟨⟨a1, a2, a3⟩, ⟨b1, b2, b3, b4⟩⟩ ⟨s3.b ++ [1], s3.e⟩ = .ok () s := r5
      have ht := use_3 (H := H) (x := .cells [.str mod, .str nm, .int .i64 1, .int .i64 ty, .int .i64 a1, .bool a2, .int .i64 a3, .bool b1, .int .u64 b2, .int .u64 b3, .bool b4, .bool c1, .int .u64 c2, .int .u64 c3, .bool c4, .int .i64 d1, .bool d2, .int .i64 d3, .bool d4]) (z := .cells [.int .i64 1, .int .i64 ty, .int .i64 a1, .bool a2, .int .i64 a3, .bool b1, .int .u64 b2, .int .u64 b3, .bool b4, .bool c1, .int .u64 c2, .int .u64 c3, .bool c4, .int .i64 d1, .bool d2, .int .i64 d3, .bool d4]) (ukw (b := s3.b ++ [1]) (f := s3.e) (v := ⟨⟨a1, a2, a3⟩, ⟨b1, b2, b3, b4⟩⟩) t1 t2 x2 new2) r5
      have hd := done_3 (H := H) (x := .cells [.str mod, .str nm, .int .i64 1, .int .i64 ty, .int .i64 a1, .bool a2, .int .i64 a3, .bool b1, .int .u64 b2, .int .u64 b3, .bool b4, .bool c1, .int .u64 c2, .int .u64 c3, .bool c4, .int .i64 d1, .bool d2, .int .i64 d3, .bool d4]) (z := .cells [.int .i64 1, .int .i64 ty, .int .i64 a1, .bool a2, .int .i64 a3, .bool b1, .int .u64 b2, .int .u64 b3, .bool b4, .bool c1, .int .u64 c2, .int .u64 c3, .bool c4, .int .i64 d1, .bool d2, .int .i64 d3, .bool d4]) (b := s.b) (f := s.e)
      rw [u0x]
      revert hd
      refine u21 (fun t => run (C u00 [.ptr (List.length H + 1) 0]) (hadd H [.cells [.str mod, .str nm, .int .i64 1, .int .i64 ty, .int .i64 a1, .bool a2, .int .i64 a3, .bool b1, .int .u64 b2, .int .u64 b3, .bool b4, .bool c1, .int .u64 c2, .int .u64 c3, .bool c4, .int .i64 d1, .bool d2, .int .i64 d3, .bool d4], .cells [accB s.b, .int .i64 s.e], .cells [.int .i64 1, .int .i64 ty, .int .i64 a1, .bool a2, .int .i64 a3, .bool b1, .int .u64 b2, .int .u64 b3, .bool b4, .bool c1, .int .u64 c2, .int .u64 c3, .bool c4, .int .i64 d1, .bool d2, .int .i64 d3, .bool d4]]) = some (.ok t (hadd H [.cells [.str mod, .str nm, .int .i64 1, .int .i64 ty, .int .i64 a1, .bool a2, .int .i64 a3, .bool b1, .int .u64 b2, .int .u64 b3, .bool b4, .bool c1, .int .u64 c2, .int .u64 c3, .bool c4, .int .i64 d1, .bool d2, .int .i64 d3, .bool d4], doneB s.b s.e, .cells [.int .i64 1, .int .i64 ty, .int .i64 a1, .bool a2, .int .i64 a3, .bool b1, .int .u64 b2, .int .u64 b3, .bool b4, .bool c1, .int .u64 c2, .int .u64 c3, .bool c4, .int .i64 d1, .bool d2, .int .i64 d3, .bool d4]])) → _ = some (Out.ok t H)) ?_ ?_ <;> intro hd <;>
        simp +contextual -dsimp (disch := omega) only [↓goDown, goUp, cr, simprocAttr, hk, hk2, hm, hb, ha, hw, hw2, hd, u2w, low_B, u0j, u0v, u2g, u3c, u0b, ht]
    · skip
      by_cases k2 : kind = 2
      · subst k2
        have hk := use_2 (H := H) (x := .cells [.str mod, .str nm, .int .i64 2, .int .i64 ty, .int .i64 a1, .bool a2, .int .i64 a3, .bool b1, .int .u64 b2, .int .u64 b3, .bool b4, .bool c1, .int .u64 c2, .int .u64 c3, .bool c4, .int .i64 d1, .bool d2, .int .i64 d3, .bool d4]) (gnameK (L := []) (b := []) (f := 0) u1 new2) r1
        rw [hp] at hk
        have hk2 := use_2 (H := H) (x := .cells [.str mod, .str nm, .int .i64 2, .int .i64 ty, .int .i64 a1, .bool a2, .int .i64 a3, .bool b1, .int .u64 b2, .int .u64 b3, .bool b4, .bool c1, .int .u64 c2, .int .u64 c3, .bool c4, .int .i64 d1, .bool d2, .int .i64 d3, .bool d4]) (gnameK (L := []) (b := s1.b) (f := s1.e) u2 new2) r2
        have hm := fun p => use_3 (H := H) (x := .cells [.str mod, .str nm, .int .i64 2, .int .i64 ty, .int .i64 a1, .bool a2, .int .i64 a3, .bool b1, .int .u64 b2, .int .u64 b3, .bool b4, .bool c1, .int .u64 c2, .int .u64 c3, .bool c4, .int .i64 d1, .bool d2, .int .i64 d3, .bool d4]) (z := .cells [.int .i64 2, .int .i64 ty, .int .i64 a1, .bool a2, .int .i64 a3, .bool b1, .int .u64 b2, .int .u64 b3, .bool b4, .bool c1, .int .u64 c2, .int .u64 c3, .bool c4, .int .i64 d1, .bool d2, .int .i64 d3, .bool d4]) (gmustK (b := s2.b) (f := s2.e) (ok := p) (e := 4) new2) rfl
        simp only [WS.eta] at hm
        have hb := fun K => u7z (K := K) (v := ⟨2, ty, ⟨⟨a1, a2, a3⟩, ⟨b1, b2, b3, b4⟩⟩, ⟨c1, c2, c3, c4⟩, ⟨⟨d1, d2, d3⟩, d4⟩⟩) (k := 2)
        rw [okX_bl (v := ⟨2, ty, ⟨⟨a1, a2, a3⟩, ⟨b1, b2, b3, b4⟩⟩, ⟨c1, c2, c3, c4⟩, ⟨⟨d1, d2, d3⟩, d4⟩⟩) (by show (0 : Int) ≤ 2; decide) (by show (2 : Int) ≤ 4; decide)] at r5 l4
        have hm := hm (decide (blP (⟨2, ty, ⟨⟨a1, a2, a3⟩, ⟨b1, b2, b3, b4⟩⟩, ⟨c1, c2, c3, c4⟩, ⟨⟨d1, d2, d3⟩, d4⟩⟩) 2))
        generalize gMust (decide (blP (⟨2, ty, ⟨⟨a1, a2, a3⟩, ⟨b1, b2, b3, b4⟩⟩, ⟨c1, c2, c3, c4⟩, ⟨⟨d1, d2, d3⟩, d4⟩⟩) 2)) 4 s2 = s3 at *
        generalize decide (blP (⟨2, ty, ⟨⟨a1, a2, a3⟩, ⟨b1, b2, b3, b4⟩⟩, ⟨c1, c2, c3, c4⟩, ⟨⟨d1, d2, d3⟩, d4⟩⟩) 2) = bp at *
        have eb : UInt8.ofNat (IntKind.u8.wrap 2).toNat = 2 := by decide
        rw [eb] at r5
        have ha := fun K => (ap_X1 (acc := s3.b) (c := 2) (K := K)).trans (if_pos l4)
        have hw : ∀ K, bsR true none [.int .u8 2] K = some (.ok (.slice true false 1 [byt 2]) K) := fun K => u20 (n := 2) (K := K) (by omega)
        have hw2 : ∀ K, run (bs true none [.int .u8 2]) K = some (.ok (.slice true false 1 [byt 2]) K) := fun K => bs_byt (n := 2) (K := K) (by omega)
        have r5 : u79 ⟨c1, c2, c3, c4⟩ ⟨s3.b ++ [2], s3.e⟩ = .ok () s := r5
        have ht := use_3 (H := H) (x := .cells [.str mod, .str nm, .int .i64 2, .int .i64 ty, .int .i64 a1, .bool a2, .int .i64 a3, .bool b1, .int .u64 b2, .int .u64 b3, .bool b4, .bool c1, .int .u64 c2, .int .u64 c3, .bool c4, .int .i64 d1, .bool d2, .int .i64 d3, .bool d4]) (z := .cells [.int .i64 2, .int .i64 ty, .int .i64 a1, .bool a2, .int .i64 a3, .bool b1, .int .u64 b2, .int .u64 b3, .bool b4, .bool c1, .int .u64 c2, .int .u64 c3, .bool c4, .int .i64 d1, .bool d2, .int .i64 d3, .bool d4]) (uik (b := s3.b ++ [2]) (f := s3.e) (v := ⟨c1, c2, c3, c4⟩) m1 m2 new2) r5
        have hd := done_3 (H := H) (x := .cells [.str mod, .str nm, .int .i64 2, .int .i64 ty, .int .i64 a1, .bool a2, .int .i64 a3, .bool b1, .int .u64 b2, .int .u64 b3, .bool b4, .bool c1, .int .u64 c2, .int .u64 c3, .bool c4, .int .i64 d1, .bool d2, .int .i64 d3, .bool d4]) (z := .cells [.int .i64 2, .int .i64 ty, .int .i64 a1, .bool a2, .int .i64 a3, .bool b1, .int .u64 b2, .int .u64 b3, .bool b4, .bool c1, .int .u64 c2, .int .u64 c3, .bool c4, .int .i64 d1, .bool d2, .int .i64 d3, .bool d4]) (b := s.b) (f := s.e)
        rw [u0x]
        revert hd
        refine u21 (fun t => run (C u00 [.ptr (List.length H + 1) 0]) (hadd H [.cells [.str mod, .str nm, .int .i64 2, .int .i64 ty, .int .i64 a1, .bool a2, .int .i64 a3, .bool b1, .int .u64 b2, .int .u64 b3, .bool b4, .bool c1, .int .u64 c2, .int .u64 c3, .bool c4, .int .i64 d1, .bool d2, .int .i64 d3, .bool d4], .cells [accB s.b, .int .i64 s.e], .cells [.int .i64 2, .int .i64 ty, .int .i64 a1, .bool a2, .int .i64 a3, .bool b1, .int .u64 b2, .int .u64 b3, .bool b4, .bool c1, .int .u64 c2, .int .u64 c3, .bool c4, .int .i64 d1, .bool d2, .int .i64 d3, .bool d4]]) = some (.ok t (hadd H [.cells [.str mod, .str nm, .int .i64 2, .int .i64 ty, .int .i64 a1, .bool a2, .int .i64 a3, .bool b1, .int .u64 b2, .int .u64 b3, .bool b4, .bool c1, .int .u64 c2, .int .u64 c3, .bool c4, .int .i64 d1, .bool d2, .int .i64 d3, .bool d4], doneB s.b s.e, .cells [.int .i64 2, .int .i64 ty, .int .i64 a1, .bool a2, .int .i64 a3, .bool b1, .int .u64 b2, .int .u64 b3, .bool b4, .bool c1, .int .u64 c2, .int .u64 c3, .bool c4, .int .i64 d1, .bool d2, .int .i64 d3, .bool d4]])) → _ = some (Out.ok t H)) ?_ ?_ <;> intro hd <;>
          simp +contextual -dsimp (disch := omega) only [↓goDown, goUp, cr, simprocAttr, hk, hk2, hm, hb, ha, hw, hw2, hd, u2w, low_B, u0j, u0v, u2g, u3c, u0b, ht]
      · skip
        by_cases k3 : kind = 3
        · subst k3
          have hk := use_2 (H := H) (x := .cells [.str mod, .str nm, .int .i64 3, .int .i64 ty, .int .i64 a1, .bool a2, .int .i64 a3, .bool b1, .int .u64 b2, .int .u64 b3, .bool b4, .bool c1, .int .u64 c2, .int .u64 c3, .bool c4, .int .i64 d1, .bool d2, .int .i64 d3, .bool d4]) (gnameK (L := []) (b := []) (f := 0) u1 new2) r1
          rw [hp] at hk
          have hk2 := use_2 (H := H) (x := .cells [.str mod, .str nm, .int .i64 3, .int .i64 ty, .int .i64 a1, .bool a2, .int .i64 a3, .bool b1, .int .u64 b2, .int .u64 b3, .bool b4, .bool c1, .int .u64 c2, .int .u64 c3, .bool c4, .int .i64 d1, .bool d2, .int .i64 d3, .bool d4]) (gnameK (L := []) (b := s1.b) (f := s1.e) u2 new2) r2
          have hm := fun p => use_3 (H := H) (x := .cells [.str mod, .str nm, .int .i64 3, .int .i64 ty, .int .i64 a1, .bool a2, .int .i64 a3, .bool b1, .int .u64 b2, .int .u64 b3, .bool b4, .bool c1, .int .u64 c2, .int .u64 c3, .bool c4, .int .i64 d1, .bool d2, .int .i64 d3, .bool d4]) (z := .cells [.int .i64 3, .int .i64 ty, .int .i64 a1, .bool a2, .int .i64 a3, .bool b1, .int .u64 b2, .int .u64 b3, .bool b4, .bool c1, .int .u64 c2, .int .u64 c3, .bool c4, .int .i64 d1, .bool d2, .int .i64 d3, .bool d4]) (gmustK (b := s2.b) (f := s2.e) (ok := p) (e := 4) new2) rfl
          simp only [WS.eta] at hm
          have hb := fun K => u7z (K := K) (v := ⟨3, ty, ⟨⟨a1, a2, a3⟩, ⟨b1, b2, b3, b4⟩⟩, ⟨c1, c2, c3, c4⟩, ⟨⟨d1, d2, d3⟩, d4⟩⟩) (k := 3)
          rw [okX_bl (v := ⟨3, ty, ⟨⟨a1, a2, a3⟩, ⟨b1, b2, b3, b4⟩⟩, ⟨c1, c2, c3, c4⟩, ⟨⟨d1, d2, d3⟩, d4⟩⟩) (by show (0 : Int) ≤ 3; decide) (by show (3 : Int) ≤ 4; decide)] at r5 l4
          have hm := hm (decide (blP (⟨3, ty, ⟨⟨a1, a2, a3⟩, ⟨b1, b2, b3, b4⟩⟩, ⟨c1, c2, c3, c4⟩, ⟨⟨d1, d2, d3⟩, d4⟩⟩) 3))
          generalize gMust (decide (blP (⟨3, ty, ⟨⟨a1, a2, a3⟩, ⟨b1, b2, b3, b4⟩⟩, ⟨c1, c2, c3, c4⟩, ⟨⟨d1, d2, d3⟩, d4⟩⟩) 3)) 4 s2 = s3 at *
          generalize decide (blP (⟨3, ty, ⟨⟨a1, a2, a3⟩, ⟨b1, b2, b3, b4⟩⟩, ⟨c1, c2, c3, c4⟩, ⟨⟨d1, d2, d3⟩, d4⟩⟩) 3) = bp at *
          have eb : UInt8.ofNat (IntKind.u8.wrap 3).toNat = 3 := by decide
          rw [eb] at r5
          have ha := fun K => (ap_X1 (acc := s3.b) (c := 3) (K := K)).trans (if_pos l4)
          have hw : ∀ K, bsR true none [.int .u8 3] K = some (.ok (.slice true false 1 [byt 3]) K) := fun K => u20 (n := 3) (K := K) (by omega)
          have hw2 : ∀ K, run (bs true none [.int .u8 3]) K = some (.ok (.slice true false 1 [byt 3]) K) := fun K => bs_byt (n := 3) (K := K) (by omega)
          have r5 : u8h ⟨⟨d1, d2, d3⟩, d4⟩ ⟨s3.b ++ [3], s3.e⟩ = .ok () s := r5
          have ht := use_3 (H := H) (x := .cells [.str mod, .str nm, .int .i64 3, .int .i64 ty, .int .i64 a1, .bool a2, .int .i64 a3, .bool b1, .int .u64 b2, .int .u64 b3, .bool b4, .bool c1, .int .u64 c2, .int .u64 c3, .bool c4, .int .i64 d1, .bool d2, .int .i64 d3, .bool d4]) (z := .cells [.int .i64 3, .int .i64 ty, .int .i64 a1, .bool a2, .int .i64 a3, .bool b1, .int .u64 b2, .int .u64 b3, .bool b4, .bool c1, .int .u64 c2, .int .u64 c3, .bool c4, .int .i64 d1, .bool d2, .int .i64 d3, .bool d4]) (uie (b := s3.b ++ [3]) (f := s3.e) (v := ⟨⟨d1, d2, d3⟩, d4⟩) x3 new2) r5
          have hd := done_3 (H := H) (x := .cells [.str mod, .str nm, .int .i64 3, .int .i64 ty, .int .i64 a1, .bool a2, .int .i64 a3, .bool b1, .int .u64 b2, .int .u64 b3, .bool b4, .bool c1, .int .u64 c2, .int .u64 c3, .bool c4, .int .i64 d1, .bool d2, .int .i64 d3, .bool d4]) (z := .cells [.int .i64 3, .int .i64 ty, .int .i64 a1, .bool a2, .int .i64 a3, .bool b1, .int .u64 b2, .int .u64 b3, .bool b4, .bool c1, .int .u64 c2, .int .u64 c3, .bool c4, .int .i64 d1, .bool d2, .int .i64 d3, .bool d4]) (b := s.b) (f := s.e)
          rw [u0x]
          revert hd
          refine u21 (fun t => run (C u00 [.ptr (List.length H + 1) 0]) (hadd H [.cells [.str mod, .str nm, .int .i64 3, .int .i64 ty, .int .i64 a1, .bool a2, .int .i64 a3, .bool b1, .int .u64 b2, .int .u64 b3, .bool b4, .bool c1, .int .u64 c2, .int .u64 c3, .bool c4, .int .i64 d1, .bool d2, .int .i64 d3, .bool d4], .cells [accB s.b, .int .i64 s.e], .cells [.int .i64 3, .int .i64 ty, .int .i64 a1, .bool a2, .int .i64 a3, .bool b1, .int .u64 b2, .int .u64 b3, .bool b4, .bool c1, .int .u64 c2, .int .u64 c3, .bool c4, .int .i64 d1, .bool d2, .int .i64 d3, .bool d4]]) = some (.ok t (hadd H [.cells [.str mod, .str nm, .int .i64 3, .int .i64 ty, .int .i64 a1, .bool a2, .int .i64 a3, .bool b1, .int .u64 b2, .int .u64 b3, .bool b4, .bool c1, .int .u64 c2, .int .u64 c3, .bool c4, .int .i64 d1, .bool d2, .int .i64 d3, .bool d4], doneB s.b s.e, .cells [.int .i64 3, .int .i64 ty, .int .i64 a1, .bool a2, .int .i64 a3, .bool b1, .int .u64 b2, .int .u64 b3, .bool b4, .bool c1, .int .u64 c2, .int .u64 c3, .bool c4, .int .i64 d1, .bool d2, .int .i64 d3, .bool d4]])) → _ = some (Out.ok t H)) ?_ ?_ <;> intro hd <;>
            simp +contextual -dsimp (disch := omega) only [↓goDown, goUp, cr, simprocAttr, hk, hk2, hm, hb, ha, hw, hw2, hd, u2w, low_B, u0j, u0v, u2g, u3c, u0b, ht]
        · skip
          by_cases k4 : kind = 4
          · subst k4
            have hk := use_2 (H := H) (x := .cells [.str mod, .str nm, .int .i64 4, .int .i64 ty, .int .i64 a1, .bool a2, .int .i64 a3, .bool b1, .int .u64 b2, .int .u64 b3, .bool b4, .bool c1, .int .u64 c2, .int .u64 c3, .bool c4, .int .i64 d1, .bool d2, .int .i64 d3, .bool d4]) (gnameK (L := []) (b := []) (f := 0) u1 new2) r1
            rw [hp] at hk
            have hk2 := use_2 (H := H) (x := .cells [.str mod, .str nm, .int .i64 4, .int .i64 ty, .int .i64 a1, .bool a2, .int .i64 a3, .bool b1, .int .u64 b2, .int .u64 b3, .bool b4, .bool c1, .int .u64 c2, .int .u64 c3, .bool c4, .int .i64 d1, .bool d2, .int .i64 d3, .bool d4]) (gnameK (L := []) (b := s1.b) (f := s1.e) u2 new2) r2
            have hm := fun p => use_3 (H := H) (x := .cells [.str mod, .str nm, .int .i64 4, .int .i64 ty, .int .i64 a1, .bool a2, .int .i64 a3, .bool b1, .int .u64 b2, .int .u64 b3, .bool b4, .bool c1, .int .u64 c2, .int .u64 c3, .bool c4, .int .i64 d1, .bool d2, .int .i64 d3, .bool d4]) (z := .cells [.int .i64 4, .int .i64 ty, .int .i64 a1, .bool a2, .int .i64 a3, .bool b1, .int .u64 b2, .int .u64 b3, .bool b4, .bool c1, .int .u64 c2, .int .u64 c3, .bool c4, .int .i64 d1, .bool d2, .int .i64 d3, .bool d4]) (gmustK (b := s2.b) (f := s2.e) (ok := p) (e := 4) new2) rfl
            simp only [WS.eta] at hm
            have hb := fun K => u7z (K := K) (v := ⟨4, ty, ⟨⟨a1, a2, a3⟩, ⟨b1, b2, b3, b4⟩⟩, ⟨c1, c2, c3, c4⟩, ⟨⟨d1, d2, d3⟩, d4⟩⟩) (k := 4)
            rw [okX_bl (v := ⟨4, ty, ⟨⟨a1, a2, a3⟩, ⟨b1, b2, b3, b4⟩⟩, ⟨c1, c2, c3, c4⟩, ⟨⟨d1, d2, d3⟩, d4⟩⟩) (by show (0 : Int) ≤ 4; decide) (by show (4 : Int) ≤ 4; decide)] at r5 l4
            have hm := hm (decide (blP (⟨4, ty, ⟨⟨a1, a2, a3⟩, ⟨b1, b2, b3, b4⟩⟩, ⟨c1, c2, c3, c4⟩, ⟨⟨d1, d2, d3⟩, d4⟩⟩) 4))
            generalize gMust (decide (blP (⟨4, ty, ⟨⟨a1, a2, a3⟩, ⟨b1, b2, b3, b4⟩⟩, ⟨c1, c2, c3, c4⟩, ⟨⟨d1, d2, d3⟩, d4⟩⟩) 4)) 4 s2 = s3 at *
            generalize decide (blP (⟨4, ty, ⟨⟨a1, a2, a3⟩, ⟨b1, b2, b3, b4⟩⟩, ⟨c1, c2, c3, c4⟩, ⟨⟨d1, d2, d3⟩, d4⟩⟩) 4) = bp at *
            have eb : UInt8.ofNat (IntKind.u8.wrap 4).toNat = 4 := by decide
            rw [eb] at r5
            have ha := fun K => (ap_X1 (acc := s3.b) (c := 4) (K := K)).trans (if_pos l4)
            have hw : ∀ K, bsR true none [.int .u8 4] K = some (.ok (.slice true false 1 [byt 4]) K) := fun K => u20 (n := 4) (K := K) (by omega)
            have hw2 : ∀ K, run (bs true none [.int .u8 4]) K = some (.ok (.slice true false 1 [byt 4]) K) := fun K => bs_byt (n := 4) (K := K) (by omega)
            have r5 : ((gPut [0] ⟨s3.b ++ [4], s3.e⟩).bind fun _ s => gIndex ty s) = .ok () s := r5
            obtain ⟨s6, r6, r7⟩ := u78 r5
            obtain ⟨l6, rfl⟩ := put_ok r6
            have ha2 := fun K => (ap_X1 (acc := s3.b ++ [4]) (c := 0) (K := K)).trans (if_pos l6)
            have ht := use_3 (H := H) (x := .cells [.str mod, .str nm, .int .i64 4, .int .i64 ty, .int .i64 a1, .bool a2, .int .i64 a3, .bool b1, .int .u64 b2, .int .u64 b3, .bool b4, .bool c1, .int .u64 c2, .int .u64 c3, .bool c4, .int .i64 d1, .bool d2, .int .i64 d3, .bool d4]) (z := .cells [.int .i64 4, .int .i64 ty, .int .i64 a1, .bool a2, .int .i64 a3, .bool b1, .int .u64 b2, .int .u64 b3, .bool b4, .bool c1, .int .u64 c2, .int .u64 c3, .bool c4, .int .i64 d1, .bool d2, .int .i64 d3, .bool d4]) (um1 (b := s3.b ++ [4] ++ [0]) (f := s3.e) (n := ty) x1 new2) r7
            have hd := done_3 (H := H) (x := .cells [.str mod, .str nm, .int .i64 4, .int .i64 ty, .int .i64 a1, .bool a2, .int .i64 a3, .bool b1, .int .u64 b2, .int .u64 b3, .bool b4, .bool c1, .int .u64 c2, .int .u64 c3, .bool c4, .int .i64 d1, .bool d2, .int .i64 d3, .bool d4]) (z := .cells [.int .i64 4, .int .i64 ty, .int .i64 a1, .bool a2, .int .i64 a3, .bool b1, .int .u64 b2, .int .u64 b3, .bool b4, .bool c1, .int .u64 c2, .int .u64 c3, .bool c4, .int .i64 d1, .bool d2, .int .i64 d3, .bool d4]) (b := s.b) (f := s.e)
            rw [u0x]
            revert hd
            refine u21 (fun t => run (C u00 [.ptr (List.length H + 1) 0]) (hadd H [.cells [.str mod, .str nm, .int .i64 4, .int .i64 ty, .int .i64 a1, .bool a2, .int .i64 a3, .bool b1, .int .u64 b2, .int .u64 b3, .bool b4, .bool c1, .int .u64 c2, .int .u64 c3, .bool c4, .int .i64 d1, .bool d2, .int .i64 d3, .bool d4], .cells [accB s.b, .int .i64 s.e], .cells [.int .i64 4, .int .i64 ty, .int .i64 a1, .bool a2, .int .i64 a3, .bool b1, .int .u64 b2, .int .u64 b3, .bool b4, .bool c1, .int .u64 c2, .int .u64 c3, .bool c4, .int .i64 d1, .bool d2, .int .i64 d3, .bool d4]]) = some (.ok t (hadd H [.cells [.str mod, .str nm, .int .i64 4, .int .i64 ty, .int .i64 a1, .bool a2, .int .i64 a3, .bool b1, .int .u64 b2, .int .u64 b3, .bool b4, .bool c1, .int .u64 c2, .int .u64 c3, .bool c4, .int .i64 d1, .bool d2, .int .i64 d3, .bool d4], doneB s.b s.e, .cells [.int .i64 4, .int .i64 ty, .int .i64 a1, .bool a2, .int .i64 a3, .bool b1, .int .u64 b2, .int .u64 b3, .bool b4, .bool c1, .int .u64 c2, .int .u64 c3, .bool c4, .int .i64 d1, .bool d2, .int .i64 d3, .bool d4]])) → _ = some (Out.ok t H)) ?_ ?_ <;> intro hd <;>
              simp +contextual -dsimp (disch := omega) only [↓goDown, goUp, cr, simprocAttr, hk, hk2, hm, hb, ha, hw, hw2, hd, u2w, low_B, u0j, u0v, u2g, u3c, u0b, ha2, bs0, ht]
          · skip
            have hk := use_2 (H := H) (x := .cells [.str mod, .str nm, .int .i64 kind, .int .i64 ty, .int .i64 a1, .bool a2, .int .i64 a3, .bool b1, .int .u64 b2, .int .u64 b3, .bool b4, .bool c1, .int .u64 c2, .int .u64 c3, .bool c4, .int .i64 d1, .bool d2, .int .i64 d3, .bool d4]) (gnameK (L := []) (b := []) (f := 0) u1 new2) r1
            rw [hp] at hk
            have hk2 := use_2 (H := H) (x := .cells [.str mod, .str nm, .int .i64 kind, .int .i64 ty, .int .i64 a1, .bool a2, .int .i64 a3, .bool b1, .int .u64 b2, .int .u64 b3, .bool b4, .bool c1, .int .u64 c2, .int .u64 c3, .bool c4, .int .i64 d1, .bool d2, .int .i64 d3, .bool d4]) (gnameK (L := []) (b := s1.b) (f := s1.e) u2 new2) r2
            have hm := fun p => use_3 (H := H) (x := .cells [.str mod, .str nm, .int .i64 kind, .int .i64 ty, .int .i64 a1, .bool a2, .int .i64 a3, .bool b1, .int .u64 b2, .int .u64 b3, .bool b4, .bool c1, .int .u64 c2, .int .u64 c3, .bool c4, .int .i64 d1, .bool d2, .int .i64 d3, .bool d4]) (z := .cells [.int .i64 kind, .int .i64 ty, .int .i64 a1, .bool a2, .int .i64 a3, .bool b1, .int .u64 b2, .int .u64 b3, .bool b4, .bool c1, .int .u64 c2, .int .u64 c3, .bool c4, .int .i64 d1, .bool d2, .int .i64 d3, .bool d4]) (gmustK (b := s2.b) (f := s2.e) (ok := p) (e := 4) new2) rfl
            simp only [WS.eta] at hm
            have hb : True := trivial
            have hno : ¬ okX (⟨kind, ty, ⟨⟨a1, a2, a3⟩, ⟨b1, b2, b3, b4⟩⟩, ⟨c1, c2, c3, c4⟩, ⟨⟨d1, d2, d3⟩, d4⟩⟩) := fun h => by have h1 := h.1; have h2 := h.2.1; simp only at h1 h2; omega
            rw [decide_eq_false hno] at r5 l4
            have hm := hm false
            generalize gMust false 4 s2 = s3 at *
            have ha := fun K => (ap_X1 (acc := s3.b) (c := UInt8.ofNat (IntKind.u8.wrap kind).toNat) (K := K)).trans (if_pos l4)
            have hw := fun K => udd (x := kind) (K := K)
            have hw2 : True := trivial
            have r5 : (Res.ok () ⟨s3.b ++ [UInt8.ofNat (IntKind.u8.wrap kind).toNat], s3.e⟩ : GR) = .ok () s := by
              rw [← r5]
              unfold gTail
              simp only [k0, k1, k2, k3, k4, if_false]
            injection r5 with _ r5
            subst r5
            have hd := done_3 (H := H) (x := .cells [.str mod, .str nm, .int .i64 kind, .int .i64 ty, .int .i64 a1, .bool a2, .int .i64 a3, .bool b1, .int .u64 b2, .int .u64 b3, .bool b4, .bool c1, .int .u64 c2, .int .u64 c3, .bool c4, .int .i64 d1, .bool d2, .int .i64 d3, .bool d4]) (z := .cells [.int .i64 kind, .int .i64 ty, .int .i64 a1, .bool a2, .int .i64 a3, .bool b1, .int .u64 b2, .int .u64 b3, .bool b4, .bool c1, .int .u64 c2, .int .u64 c3, .bool c4, .int .i64 d1, .bool d2, .int .i64 d3, .bool d4]) (b := s3.b ++ [UInt8.ofNat (IntKind.u8.wrap kind).toNat]) (f := s3.e)
            rw [u0x]
            revert hd
            by_cases q0 : 0 ≤ kind
            · have q4 : ¬ kind ≤ 4 := by omega
              refine u21 (fun t => run (C u00 [.ptr (List.length H + 1) 0]) (hadd H [.cells [.str mod, .str nm, .int .i64 kind, .int .i64 ty, .int .i64 a1, .bool a2, .int .i64 a3, .bool b1, .int .u64 b2, .int .u64 b3, .bool b4, .bool c1, .int .u64 c2, .int .u64 c3, .bool c4, .int .i64 d1, .bool d2, .int .i64 d3, .bool d4], .cells [accB (s3.b ++ [UInt8.ofNat (IntKind.u8.wrap kind).toNat]), .int .i64 s3.e], .cells [.int .i64 kind, .int .i64 ty, .int .i64 a1, .bool a2, .int .i64 a3, .bool b1, .int .u64 b2, .int .u64 b3, .bool b4, .bool c1, .int .u64 c2, .int .u64 c3, .bool c4, .int .i64 d1, .bool d2, .int .i64 d3, .bool d4]]) = some (.ok t (hadd H [.cells [.str mod, .str nm, .int .i64 kind, .int .i64 ty, .int .i64 a1, .bool a2, .int .i64 a3, .bool b1, .int .u64 b2, .int .u64 b3, .bool b4, .bool c1, .int .u64 c2, .int .u64 c3, .bool c4, .int .i64 d1, .bool d2, .int .i64 d3, .bool d4], doneB (s3.b ++ [UInt8.ofNat (IntKind.u8.wrap kind).toNat]) s3.e, .cells [.int .i64 kind, .int .i64 ty, .int .i64 a1, .bool a2, .int .i64 a3, .bool b1, .int .u64 b2, .int .u64 b3, .bool b4, .bool c1, .int .u64 c2, .int .u64 c3, .bool c4, .int .i64 d1, .bool d2, .int .i64 d3, .bool d4]])) → _ = some (Out.ok t H)) ?_ ?_ <;> intro hd <;>
                simp +contextual -dsimp (disch := omega) only [↓goDown, goUp, cr, simprocAttr, hk, hk2, hm, hb, ha, hw, hw2, hd, u2w, low_B, u0j, u0v, u2g, u3c, u0b, eq_false k0, eq_false k1, eq_false k2, eq_false k3, eq_false k4, eq_true q0, eq_false q4]
            · skip
              refine u21 (fun t => run (C u00 [.ptr (List.length H + 1) 0]) (hadd H [.cells [.str mod, .str nm, .int .i64 kind, .int .i64 ty, .int .i64 a1, .bool a2, .int .i64 a3, .bool b1, .int .u64 b2, .int .u64 b3, .bool b4, .bool c1, .int .u64 c2, .int .u64 c3, .bool c4, .int .i64 d1, .bool d2, .int .i64 d3, .bool d4], .cells [accB (s3.b ++ [UInt8.ofNat (IntKind.u8.wrap kind).toNat]), .int .i64 s3.e], .cells [.int .i64 kind, .int .i64 ty, .int .i64 a1, .bool a2, .int .i64 a3, .bool b1, .int .u64 b2, .int .u64 b3, .bool b4, .bool c1, .int .u64 c2, .int .u64 c3, .bool c4, .int .i64 d1, .bool d2, .int .i64 d3, .bool d4]]) = some (.ok t (hadd H [.cells [.str mod, .str nm, .int .i64 kind, .int .i64 ty, .int .i64 a1, .bool a2, .int .i64 a3, .bool b1, .int .u64 b2, .int .u64 b3, .bool b4, .bool c1, .int .u64 c2, .int .u64 c3, .bool c4, .int .i64 d1, .bool d2, .int .i64 d3, .bool d4], doneB (s3.b ++ [UInt8.ofNat (IntKind.u8.wrap kind).toNat]) s3.e, .cells [.int .i64 kind, .int .i64 ty, .int .i64 a1, .bool a2, .int .i64 a3, .bool b1, .int .u64 b2, .int .u64 b3, .bool b4, .bool c1, .int .u64 c2, .int .u64 c3, .bool c4, .int .i64 d1, .bool d2, .int .i64 d3, .bool d4]])) → _ = some (Out.ok t H)) ?_ ?_ <;> intro hd <;>
                simp +contextual -dsimp (disch := omega) only [↓goDown, goUp, cr, simprocAttr, hk, hk2, hm, hb, ha, hw, hw2, hd, u2w, low_B, u0j, u0v, u2g, u3c, u0b, eq_false k0, eq_false k1, eq_false k2, eq_false k3, eq_false k4, eq_false q0]
end Go.Proofs.YthnmienjiangkaaDoor.Pi.Q
namespace Go.Proofs.YthnmienjiangkaaDoor.Pi.Q
open Go Go.Proofs.YthnmienjiangkaaDoor.Pi
theorem uf3 {v : TB} (h1 : I64 v.elem.heap) (h2 : 0 ≤ v.lim.min ∧ v.lim.min < 18446744073709551616) (h3 : 0 ≤ v.lim.max ∧ v.lim.max < 18446744073709551616) : Sim 32 (kTable v) (gTable v) := by
  refine u1q (((u7q (b := decide (v.elem.num = 5)) (c := decide (v.elem.num = 5)) (e := 4) (by decide) rfl).bind ((uks h1).bind (ubu h2 h3))).mono (by decide)) (fun acc => ?_) (fun s => rfl)
  rfl
theorem uco {v : GO} (h1 : I64 v.ty.heap) : Sim 12 (u5j v) (u8h v) := (uks h1).bind uo1
theorem uil {u : List UInt8} : (wName u).1.length ≤ 65546 := by
  unfold wName
  split
  · simp
  · have := u5r (n := u.length) (by omega)
    split
    · simp
    · simp; omega
theorem name_sim {u : List UInt8} : Sim 65546 (kName u) (gName u) := by
  by_cases h : (wName u).2 = 0
  · refine u1q (u3d (u := (wName u).1) uil) (fun acc => if_pos h) (fun s => ?_)
    unfold gName
    rw [decide_eq_true h, udu]
  · refine u1q (u5u (e := (wName u).2) (g := gPut (wName u).1) (by omega) (u6g uil)) (fun acc => if_neg h) (fun s => ?_)
    unfold gName
    rw [decide_eq_false h]
theorem unv {v : XT} (h0 : v.ty ≤ 9223372036854775807) (h1 : I64 v.tab.elem.heap) (h2 : 0 ≤ v.tab.lim.min ∧ v.tab.lim.min < 18446744073709551616) (h3 : 0 ≤ v.tab.lim.max ∧ v.tab.lim.max < 18446744073709551616)
    (h4 : 0 ≤ v.mem.min ∧ v.mem.min < 18446744073709551616) (h5 : 0 ≤ v.mem.max ∧ v.mem.max < 18446744073709551616) (h6 : I64 v.glo.ty.heap) (hk : 0 ≤ v.kind ∧ v.kind ≤ 4) :
    Sim 50 (fun acc => if v.kind = 0 then kIndex v.ty acc else if v.kind = 1 then kTable v.tab acc else if v.kind = 2 then u7a v.mem acc else if v.kind = 3 then u5j v.glo acc else kTag v.ty acc) (gTail v) := by
  unfold gTail
  by_cases k0 : v.kind = 0
  · simp only [if_pos k0]; exact (uf9 h0).mono (by decide)
  · simp only [if_neg k0]
    by_cases k1 : v.kind = 1
    · simp only [if_pos k1]; exact (uf3 h1 h2 h3).mono (by decide)
    · simp only [if_neg k1]
      by_cases k2 : v.kind = 2
      · simp only [if_pos k2]; exact (ubu h4 h5).mono (by decide)
      · simp only [if_neg k2]
        by_cases k3 : v.kind = 3
        · simp only [if_pos k3]; exact (uco h6).mono (by decide)
        · simp only [if_neg k3, if_pos (show v.kind = 4 by omega)]
          exact ((u3d (u := [0]) (n := 1) (by simp)).bind (uf9 h0)).mono (by decide)
theorem upk {v : XT} (h0 : v.ty ≤ 9223372036854775807) (h1 : I64 v.tab.elem.heap) (h2 : 0 ≤ v.tab.lim.min ∧ v.tab.lim.min < 18446744073709551616) (h3 : 0 ≤ v.tab.lim.max ∧ v.tab.lim.max < 18446744073709551616)
    (h4 : 0 ≤ v.mem.min ∧ v.mem.min < 18446744073709551616) (h5 : 0 ≤ v.mem.max ∧ v.mem.max < 18446744073709551616) (h6 : I64 v.glo.ty.heap) : Sim 60 (kExt v) (gExt v) := by
  by_cases hk : 0 ≤ v.kind ∧ v.kind ≤ 4
  · exact ((u7q (b := decide (okX v)) (c := decide (okX v)) (e := 4) (by decide) rfl).bind ((u3d (u := [UInt8.ofNat (IntKind.u8.wrap v.kind).toNat]) (n := 1) (by simp)).bind (unv h0 h1 h2 h3 h4 h5 h6 hk))).mono (by decide)
  · have hno : ¬ okX v := fun h => hk ⟨h.1, h.2.1⟩
    have rt : Runs 60 (fun s => (gPut [UInt8.ofNat (IntKind.u8.wrap v.kind).toNat] s).bind fun _ s => gTail v s) := by
      intro acc e ha he
      obtain ⟨b, h1, h2⟩ := (u6g (u := [UInt8.ofNat (IntKind.u8.wrap v.kind).toNat]) (n := 1) (by simp)) acc e (by omega) he
      refine ⟨b, by omega, ?_⟩
      simp only [h2, Res.bind]
      unfold gTail
      rw [if_neg (by omega), if_neg (by omega), if_neg (by omega), if_neg (by omega), if_neg (by omega)]
    refine u1q (u5u (e := 4) (by decide) rt) (fun acc => ?_) (fun s => ?_)
    · unfold kExt kMust
      rw [decide_eq_false hno]
      rfl
    · unfold gExt
      rw [decide_eq_false hno]
theorem ujw {v : IM} (h0 : v.ext.ty ≤ 9223372036854775807) (h1 : I64 v.ext.tab.elem.heap) (h2 : 0 ≤ v.ext.tab.lim.min ∧ v.ext.tab.lim.min < 18446744073709551616) (h3 : 0 ≤ v.ext.tab.lim.max ∧ v.ext.tab.lim.max < 18446744073709551616)
    (h4 : 0 ≤ v.ext.mem.min ∧ v.ext.mem.min < 18446744073709551616) (h5 : 0 ≤ v.ext.mem.max ∧ v.ext.mem.max < 18446744073709551616) (h6 : I64 v.ext.glo.ty.heap) : Sim 200000 (u8c v) (uma v) :=
  (name_sim.bind (name_sim.bind (upk h0 h1 h2 h3 h4 h5 h6))).mono (by decide)
theorem ujp {v : EX} (h : 0 ≤ v.pl ∧ v.pl < 4294967296) : Sim 100000 (u8i v) (ulc v) :=
  (name_sim.bind ((u7q (b := decide (0 ≤ v.kind ∧ v.kind ≤ 4)) (c := decide (0 ≤ v.kind ∧ v.kind ≤ 4)) (e := 4) (by decide) rfl).bind ((u3d (u := [UInt8.ofNat (IntKind.u8.wrap v.kind).toNat]) (n := 1) (by simp)).bind (u3d (u := putU v.pl.toNat) (n := 10) (u5r (by omega)))))).mono (by decide)
end Go.Proofs.YthnmienjiangkaaDoor.Pi.Q
namespace Go.Proofs.YthnmienjiangkaaDoor.Pi.Q
open Go Go.Proofs.YthnmienjiangkaaDoor.Pi
attribute [local congr] ite_congr
theorem u6k {b : List UInt8} {f e : Int} {S T : PV} (h : doneV b f = .tup [S, .int .i64 e]) (hT : stripC S = T) : strip S = T := by
  rw [← hT]
  unfold doneV at h
  split at h
  · injection h with h
    injection h with h1 h2
    subst h1
    rw [u2g, u3c]
  · injection h with h
    injection h with h1 h2
    subst h1
    rfl
theorem umu {v : IM} {x : EX} {H : Heap} (t1 : 0 ≤ v.ext.tab.lim.min ∧ v.ext.tab.lim.min < 18446744073709551616) (t2 : 0 ≤ v.ext.tab.lim.max ∧ v.ext.tab.lim.max < 18446744073709551616) (m1 : 0 ≤ v.ext.mem.min ∧ v.ext.mem.min < 18446744073709551616) (m2 : 0 ≤ v.ext.mem.max ∧ v.ext.mem.max < 18446744073709551616) (u1 : v.mod.size ≤ maxLen) (u2 : v.nm.size ≤ maxLen) (x0 : v.ext.ty ≤ 9223372036854775807) (x1 : I64 v.ext.tab.elem.heap) (x2 : I64 v.ext.glo.ty.heap) (q1 : 0 ≤ x.pl ∧ x.pl < 4294967296) (q2 : x.nm.size ≤ maxLen) :
    run (C u2m [.agg [.str v.mod, .str v.nm, .int .i64 v.ext.kind, .int .i64 v.ext.ty, .int .i64 v.ext.tab.elem.num, .bool v.ext.tab.elem.nul, .int .i64 v.ext.tab.elem.heap, .bool v.ext.tab.lim.wide, .int .u64 v.ext.tab.lim.min, .int .u64 v.ext.tab.lim.max, .bool v.ext.tab.lim.has, .bool v.ext.mem.wide, .int .u64 v.ext.mem.min, .int .u64 v.ext.mem.max, .bool v.ext.mem.has, .int .i64 v.ext.glo.ty.num, .bool v.ext.glo.ty.nul, .int .i64 v.ext.glo.ty.heap, .bool v.ext.glo.mu], .agg [.str x.nm, .int .i64 x.kind, .int .u32 x.pl]]) H = some (.ok (.bool true) H) := by
  obtain ⟨n1, e1, S1, o1, a1, ⟨s1, b1, d1⟩, st1, y1⟩ := ((ujw x0 x1 t1 t2 m1 m2 x2).both (by decide)).seen
  obtain ⟨n2, e2, S2, o2, a2, ⟨s2, b2, d2⟩, st2, y2⟩ := ((ujp q1).both (by decide)).seen
  obtain ⟨n3, e3, S3, o3, a3, ⟨s3, b3, d3⟩, st3, y3⟩ := ((uf3 x1 t1 t2).both (by decide)).seen
  obtain ⟨n4, e4, S4, o4, a4, ⟨s4, b4, d4⟩, st4, y4⟩ := ((uco x2).both (by decide)).seen
  have p1 := fun K => (uk1 (H := K) t1 t2 m1 m2 u1 u2 o1).trans (a1 K)
  have p2 := fun K => (uk6 (H := K) q1 q2 o2).trans (a2 K)
  have p3 := fun K => (um5 (H := K) t1 t2 o3).trans (a3 K)
  have p4 := fun K => (ujj (H := K) o4).trans (a4 K)
  have g1 := fun K => ug9 (H := K) t1 t2 m1 m2 u1 u2 x0 x1.2 x2.2 b1
  have g2 := fun K => ugg (H := K) q1 q2 b2
  have g3 := fun K => ujl (H := K) t1 t2 x1.2 b3
  have g4 := fun K => uha (H := K) x2.2 b4
  have v1 := u6k d1 st1
  have v2 := u6k d2 st2
  have v3 := u6k d3 st3
  have v4 := u6k d4 st4
  rw [d1] at g1
  rw [d2] at g2
  rw [d3] at g3
  rw [d4] at g4
  have hs1 := fun K => u85 (H := K) y1
  have hs2 := fun K => u85 (H := K) y2
  have hs3 := fun K => u85 (H := K) y3
  have hs4 := fun K => u85 (H := K) y4
  rw [u5a]
  simp +contextual -dsimp (disch := omega) only [↓goDown, goUp, cr, simprocAttr, p1, p2, p3, p4, g1, g2, g3, g4, hs1, hs2, hs3, hs4, st1, st2, st3, st4, v1, v2, v3, v4, un_not, une, u40, u3j, u4c, u3l, u4e, low_Z]
end Go.Proofs.YthnmienjiangkaaDoor.Pi.Q
namespace Go.Proofs.YthnmienjiangkaaDoor.Pi.Q
open Go Go.Proofs.YthnmienjiangkaaDoor.Pi
theorem wf_u32 {n : Int} (h : (Lit.int .u32 n).wf = true) : 0 ≤ n ∧ n < 4294967296 := by
  simp [Lit.wf, IntKind.min, IntKind.max, IntKind.bits, IntKind.signed] at h
  omega
theorem puts_of {v : IM} {x : EX} {H : Heap} (h : ok_IM v) (k : ok_EX x) : run (C u2m [.agg (cs_IM v), .agg (cs_EX x)]) H = some (.ok (.bool true) H) := by
  obtain ⟨h1, h2, ⟨h3, h4, ⟨⟨h5, _, h6, _⟩, ⟨_, h7, h8, _⟩, _⟩, ⟨_, h9, h10, _⟩, ⟨⟨h11, _, h12, _⟩, _⟩, _⟩, _⟩ := h
  obtain ⟨k1, k2, k3, _⟩ := k
  exact umu (wf_u64 h7) (wf_u64 h8) (wf_u64 h9) (wf_u64 h10) h1 h2 (wf_i64 h4).2 (wf_i64 h6) (wf_i64 h12) (wf_u32 k3) k1
end Go.Proofs.YthnmienjiangkaaDoor.Pi.Q
