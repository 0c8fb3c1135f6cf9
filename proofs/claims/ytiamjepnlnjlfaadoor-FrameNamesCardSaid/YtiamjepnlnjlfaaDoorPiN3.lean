/- What the law rests on, part 4 of 4: a reading of the program's code over told data, and what it comes to. -/
import Derived.Test.YtiamjepnlnjlfaaDoorPiN2
set_option linter.unusedVariables false
set_option linter.unusedSimpArgs false
set_option maxRecDepth 100000
namespace Go.Proofs.YtiamjepnlnjlfaaDoor.Pi.Q
open Go Go.Proofs.YtiamjepnlnjlfaaDoor.Pi
attribute [local congr] ite_congr
variable {H : Heap} {z : Bool}
theorem uio {u : List UInt8} (h : u ≠ []) (h0 : bN u 0 < 128) : ∀ b ∈ u.take 1, b.toNat < 128 := by
  cases u with
  | nil => exact absurd rfl h
  | cons c r => intro b hb; simp at hb; subst hb; exact h0
theorem u9j {u : List UInt8} (h : u ≠ []) (h0 : 128 ≤ bN u 0) : Lib.validD u = if letL u = 0 then false else Lib.validD (u.drop (letL u)) := by
  have e := Lib.validD_lead u h h0
  have c := uc7 (n := u.length) (c0 := bN u 0) (c1 := bN u 1) (c2 := bN u 2) (c3 := bN u 3) h0
  unfold letL
  rw [c, e]
  unfold bN
  have d := Lib.check_decode u.length (bN u 0) (bN u 1) (bN u 2) (bN u 3) (List.length_pos_iff.2 h) h0 bN_lt bN_lt bN_lt bN_lt
  unfold bN at d
  rcases d with ⟨d, _⟩ | ⟨k, hk, d, _⟩
  · rw [d]; rfl
  · rw [d]; exact (if_neg (show ¬ k = 0 by omega)).symm
theorem ul0 {v2 v3 : PV} {n : Nat} (hm : VOk v2 n) {u : List UInt8} {H : Heap} (hn : u.length ≤ n + 1) (hu : u.length < 2 ^ 60) (h : u ≠ []) (h0 : bN u 0 < 128) :
    ∃ E, run (u03 (SB u) v2) H = some (.ok (.bool (Lib.validD u)) (hadd H E)) := by
  have hl : 0 < u.length := List.length_pos_iff.2 h
  have x0 := fun K => ixS_is (H := K) (u := u) (i := 0) (k := .i64) hl
  have x1 := fun K => slS_is (H := K) (u := u) (n := 1) (k := .i64) hl
  simp only [show ((0 : Nat) : Int) = 0 from rfl, show ((1 : Nat) : Int) = 1 from rfl] at x0 x1
  have c0 : ((0 : Int) < (u.length : Int)) = True := eq_true (by omega)
  have c1 : (((bN u 0 : Nat) : Int) < 128) = True := eq_true (by omega)
  rw [Lib.validD_ascii 1 u (uio h h0)]
  have hd : (u.drop 1).length = u.length - 1 := List.length_drop
  rw [u0e]
  generalize u.drop 1 = t at *
  obtain ⟨E1, e1⟩ := hm t H (by omega) (by omega)
  by_cases h8 : 8 < t.length
  · have h8' : ((8 : Int) < (t.length : Int)) = True := eq_true (by omega)
    have a1 := fun K => u5d (H := K) (u := t) (by omega)
    have m1 := ua9 (le8_lt (u := t))
    by_cases g1 : Lib.leNat (t.take 8) &&& 9259542123273814144 = 0
    · have x8 := fun K => slS_is (H := K) (u := t) (n := 8) (k := .i64) (by omega)
      simp only [show ((8 : Nat) : Int) = 8 from rfl] at x8
      rw [g1] at m1
      rw [u3o (by omega) g1]
      have hd8 : (t.drop 8).length = t.length - 8 := List.length_drop
      generalize t.drop 8 = s at *
      obtain ⟨E2, e2⟩ := hm s H (by omega) (by omega)
      by_cases h16 : 16 < s.length
      · have h16' : ((16 : Int) < (s.length : Int)) = True := eq_true (by omega)
        have a2 := fun K => u5d (H := K) (u := s) (by omega)
        have a3 := fun K => u5d (H := K) (u := s.drop 8) (by rw [List.length_drop]; omega)
        have y8 := fun K => slS_is (H := K) (u := s) (n := 8) (k := .i64) (by omega)
        have y16 := fun K => slS_is (H := K) (u := s) (n := 16) (k := .i64) (by omega)
        simp only [show ((8 : Nat) : Int) = 8 from rfl, show ((16 : Nat) : Int) = 16 from rfl] at y8 y16
        have o1 := or_and (le8_lt (u := s)) (le8_lt (u := s.drop 8))
        have m2 := ua9 (Nat.or_lt_two_pow (le8_lt (u := s)) (le8_lt (u := s.drop 8)))
        by_cases g2 : (Lib.leNat (s.take 8) ||| Lib.leNat ((s.drop 8).take 8)) &&& 9259542123273814144 = 0
        · rw [g2] at m2
          rw [Lib.or_mask] at g2
          obtain ⟨E3, e3⟩ := fast32 hm (v3 := .int .u8 (bN u 0 : Nat)) (s.drop 16).length (s.drop 16) H (Nat.le_refl _) (by rw [List.length_drop]; omega) (by rw [List.length_drop]; omega)
          refine ⟨E3, ?_⟩
          rw [u3o (by omega) g2.1, u3o (by rw [List.length_drop]; omega) g2.2, List.drop_drop]
          simp +contextual -dsimp (disch := omega) only [↓goDown, goUp, cr, simprocAttr, u0f, x0, x1, c0, c1, h8', a1, m1, x8, h16', a2, a3, y8, y16, o1, m2, e3]
        · have g2' : ((((Lib.leNat (s.take 8) ||| Lib.leNat ((s.drop 8).take 8)) &&& 9259542123273814144 : Nat) : Int) = 0) = False := eq_false (by omega)
          refine ⟨E2, ?_⟩
          simp +contextual -dsimp (disch := omega) only [↓goDown, goUp, cr, simprocAttr, u0f, x0, x1, c0, c1, h8', a1, m1, x8, h16', a2, a3, y8, y16, o1, m2, g2', u05, e2]
      · have h16' : ((16 : Int) < (s.length : Int)) = False := eq_false (by omega)
        refine ⟨E2, ?_⟩
        simp +contextual -dsimp (disch := omega) only [↓goDown, goUp, cr, simprocAttr, u0f, x0, x1, c0, c1, h8', a1, m1, x8, h16', u05, e2]
    · have g1' : (((Lib.leNat (t.take 8) &&& 9259542123273814144 : Nat) : Int) = 0) = False := eq_false (by omega)
      refine ⟨E1, ?_⟩
      simp +contextual -dsimp (disch := omega) only [↓goDown, goUp, cr, simprocAttr, u0f, x0, x1, c0, c1, h8', a1, m1, g1', u05, e1]
  · have h8' : ((8 : Int) < (t.length : Int)) = False := eq_false (by omega)
    refine ⟨E1, ?_⟩
    simp +contextual -dsimp (disch := omega) only [↓goDown, goUp, cr, simprocAttr, u0f, x0, x1, c0, c1, h8', u05, e1]
theorem ukg {v2 : PV} {n : Nat} (hm : VOk v2 n) {u : List UInt8} {H : Heap} (hn : u.length ≤ n + 1) (hu : u.length < 2 ^ 60) (h : u ≠ []) (h0 : 128 ≤ bN u 0) :
    ∃ E, run (u03 (SB u) v2) H = some (.ok (.bool (Lib.validD u)) (hadd H E)) := by
  have hl : 0 < u.length := List.length_pos_iff.2 h
  have x0 := fun K => ixS_is (H := K) (u := u) (i := 0) (k := .i64) hl
  simp only [show ((0 : Nat) : Int) = 0 from rfl] at x0
  have c0 : ((0 : Int) < (u.length : Int)) = True := eq_true (by omega)
  have c1 : (((bN u 0 : Nat) : Int) < 128) = False := eq_false (by omega)
  rw [u9j h h0]
  unfold letL letN
  have hf := u5t (bN u 0)
  have hia := fun K => u8f (H := K) (c := bN u 0) bN_lt
  have hac := fun K => uep (H := K) (i := Lib.firstT (bN u 0) / 16) (by omega)
  have w1 : IntKind.i64.wrap ((Lib.firstT (bN u 0) % 8 : Nat) : Int) = ((Lib.firstT (bN u 0) % 8 : Nat) : Int) := w_i64 (by omega)
  have s4 := ue6 hf
  have a7 := uef (c := bN u 0)
  have r1 := fun (h : 1 < u.length) K => ixS_is (H := K) (u := u) (k := .i64) h
  have r2 := fun (h : 2 < u.length) K => ixS_is (H := K) (u := u) (k := .i64) h
  have r3 := fun (h : 3 < u.length) K => ixS_is (H := K) (u := u) (k := .i64) h
  simp only [show ((1 : Nat) : Int) = 1 from rfl, show ((2 : Nat) : Int) = 2 from rfl, show ((3 : Nat) : Int) = 3 from rfl] at r1 r2 r3
  have d2 := fun (h : 2 ≤ u.length) K => slS_is (H := K) (u := u) (n := 2) (k := .i64) h
  have d3 := fun (h : 3 ≤ u.length) K => slS_is (H := K) (u := u) (n := 3) (k := .i64) h
  have d4 := fun (h : 4 ≤ u.length) K => slS_is (H := K) (u := u) (n := 4) (k := .i64) h
  simp only [show ((4 : Nat) : Int) = 4 from rfl, show ((2 : Nat) : Int) = 2 from rfl, show ((3 : Nat) : Int) = 3 from rfl] at d2 d3 d4
  rw [if_neg (show ¬ bN u 0 < 128 by omega)]
  by_cases hx : 240 ≤ Lib.firstT (bN u 0)
  · have ex := u6v h0 hx
    rw [ex] at hia hac s4 a7 w1
    simp only [show 241 % 8 = 1 from rfl, show 241 / 16 = 15 from rfl, show ((1 : Nat) : Int) = 1 from rfl, show ((15 : Nat) : Int) = 15 from rfl, show ((241 : Nat) : Int) = 241 from rfl] at hia hac s4 a7 w1
    rw [if_pos hx, if_pos rfl]
    refine ⟨[.cells [.int .u8 (Lib.accLo 15), .int .u8 (Lib.accHi 15)]], ?_⟩
    rw [u0e]
    simp +contextual -dsimp (disch := omega) only [↓goDown, goUp, cr, simprocAttr, u0f, x0, c0, c1, hia, hac, s4, a7, w1]
  · have hm8 := u47 h0 hx
    rw [if_neg hx]
    generalize Lib.firstT (bN u 0) = x at *
    have x16 : x / 16 < 16 := by omega
    rw [u0e]
    generalize bN u 1 = b1 at *
    generalize bN u 2 = b2 at *
    generalize bN u 3 = b3 at *
    have hcont : ∀ k, 1 ≤ k → ∃ E, run (u03 (SB (u.drop k)) v2) (hadd H [.cells [.int .u8 (Lib.accLo (x / 16)), .int .u8 (Lib.accHi (x / 16))]]) = some (.ok (.bool (Lib.validD (u.drop k))) (hadd (hadd H [.cells [.int .u8 (Lib.accLo (x / 16)), .int .u8 (Lib.accHi (x / 16))]]) E)) :=
      fun k hk => hm (u.drop k) _ (by rw [List.length_drop]; omega) (by rw [List.length_drop]; omega)
    generalize Lib.accLo (x / 16) = lo at *
    generalize Lib.accHi (x / 16) = hi at *
    rcases hm8 with hs | hs | hs
    · rw [hs] at a7 w1 ⊢
      simp only [show ((2 : Nat) : Int) = 2 from rfl] at a7 w1
      by_cases q0 : u.length < 2
      · have t0 : ((u.length : Int) < 2) = True := eq_true (by omega)
        rw [if_pos q0, if_pos rfl]
        exact ⟨[.cells [.int .u8 lo, .int .u8 hi]], by simp +contextual -dsimp (disch := omega) only [↓goDown, goUp, cr, simprocAttr, u0f, x0, c0, c1, hia, hac, s4, a7, w1, t0]⟩
      · have t0 : ((u.length : Int) < 2) = False := eq_false (by omega)
        have r1 := r1 (by omega)
        have dd := d2 (by omega)
        rw [if_neg q0]
        by_cases l1 : b1 < lo
        · have tl1 : ((b1 : Int) < (lo : Int)) = True := eq_true (by omega)
          rw [if_pos (show b1 < lo ∨ hi < b1 from .inl l1), if_pos rfl]
          exact ⟨[.cells [.int .u8 lo, .int .u8 hi]], by simp +contextual -dsimp (disch := omega) only [↓goDown, goUp, cr, simprocAttr, u0f, x0, c0, c1, hia, hac, s4, a7, w1, t0, r1, dd, tl1]⟩
        · have tl1 : ((b1 : Int) < (lo : Int)) = False := eq_false (by omega)
          by_cases u1 : hi < b1
          · have tu1 : ((hi : Int) < (b1 : Int)) = True := eq_true (by omega)
            rw [if_pos (show b1 < lo ∨ hi < b1 from .inr u1), if_pos rfl]
            exact ⟨[.cells [.int .u8 lo, .int .u8 hi]], by simp +contextual -dsimp (disch := omega) only [↓goDown, goUp, cr, simprocAttr, u0f, x0, c0, c1, hia, hac, s4, a7, w1, t0, r1, dd, tl1, tu1]⟩
          · have tu1 : ((hi : Int) < (b1 : Int)) = False := eq_false (by omega)
            rw [if_neg (show ¬ (b1 < lo ∨ hi < b1) by omega)]
            rw [if_pos (show 2 ≤ 2 by decide)]
            rw [if_neg (show ¬ 2 = 0 by decide)]
            obtain ⟨E, ih⟩ := hcont 2 (by decide)
            refine ⟨[.cells [.int .u8 lo, .int .u8 hi]] ++ E, ?_⟩
            rw [← u65]
            simp +contextual -dsimp (disch := omega) only [↓goDown, goUp, cr, simprocAttr, u0f, x0, c0, c1, hia, hac, s4, a7, w1, t0, r1, dd, tl1, tu1, ih]
    · rw [hs] at a7 w1 ⊢
      simp only [show ((3 : Nat) : Int) = 3 from rfl] at a7 w1
      by_cases q0 : u.length < 3
      · have t0 : ((u.length : Int) < 3) = True := eq_true (by omega)
        rw [if_pos q0, if_pos rfl]
        exact ⟨[.cells [.int .u8 lo, .int .u8 hi]], by simp +contextual -dsimp (disch := omega) only [↓goDown, goUp, cr, simprocAttr, u0f, x0, c0, c1, hia, hac, s4, a7, w1, t0]⟩
      · have t0 : ((u.length : Int) < 3) = False := eq_false (by omega)
        have r1 := r1 (by omega)
        have r2 := r2 (by omega)
        have dd := d3 (by omega)
        rw [if_neg q0]
        by_cases l1 : b1 < lo
        · have tl1 : ((b1 : Int) < (lo : Int)) = True := eq_true (by omega)
          rw [if_pos (show b1 < lo ∨ hi < b1 from .inl l1), if_pos rfl]
          exact ⟨[.cells [.int .u8 lo, .int .u8 hi]], by simp +contextual -dsimp (disch := omega) only [↓goDown, goUp, cr, simprocAttr, u0f, x0, c0, c1, hia, hac, s4, a7, w1, t0, r1, r2, dd, tl1]⟩
        · have tl1 : ((b1 : Int) < (lo : Int)) = False := eq_false (by omega)
          by_cases u1 : hi < b1
          · have tu1 : ((hi : Int) < (b1 : Int)) = True := eq_true (by omega)
            rw [if_pos (show b1 < lo ∨ hi < b1 from .inr u1), if_pos rfl]
            exact ⟨[.cells [.int .u8 lo, .int .u8 hi]], by simp +contextual -dsimp (disch := omega) only [↓goDown, goUp, cr, simprocAttr, u0f, x0, c0, c1, hia, hac, s4, a7, w1, t0, r1, r2, dd, tl1, tu1]⟩
          · have tu1 : ((hi : Int) < (b1 : Int)) = False := eq_false (by omega)
            rw [if_neg (show ¬ (b1 < lo ∨ hi < b1) by omega)]
            rw [if_neg (show ¬ 3 ≤ 2 by decide)]
            by_cases l2 : b2 < 128
            · have tl2 : ((b2 : Int) < (128 : Int)) = True := eq_true (by omega)
              rw [if_pos (show b2 < 128 ∨ 191 < b2 from .inl l2), if_pos rfl]
              exact ⟨[.cells [.int .u8 lo, .int .u8 hi]], by simp +contextual -dsimp (disch := omega) only [↓goDown, goUp, cr, simprocAttr, u0f, x0, c0, c1, hia, hac, s4, a7, w1, t0, r1, r2, dd, tl1, tu1, tl2]⟩
            · have tl2 : ((b2 : Int) < (128 : Int)) = False := eq_false (by omega)
              by_cases u2 : 191 < b2
              · have tu2 : ((191 : Int) < (b2 : Int)) = True := eq_true (by omega)
                rw [if_pos (show b2 < 128 ∨ 191 < b2 from .inr u2), if_pos rfl]
                exact ⟨[.cells [.int .u8 lo, .int .u8 hi]], by simp +contextual -dsimp (disch := omega) only [↓goDown, goUp, cr, simprocAttr, u0f, x0, c0, c1, hia, hac, s4, a7, w1, t0, r1, r2, dd, tl1, tu1, tl2, tu2]⟩
              · have tu2 : ((191 : Int) < (b2 : Int)) = False := eq_false (by omega)
                rw [if_neg (show ¬ (b2 < 128 ∨ 191 < b2) by omega)]
                rw [if_pos (show 3 ≤ 3 by decide)]
                rw [if_neg (show ¬ 3 = 0 by decide)]
                obtain ⟨E, ih⟩ := hcont 3 (by decide)
                refine ⟨[.cells [.int .u8 lo, .int .u8 hi]] ++ E, ?_⟩
                rw [← u65]
                simp +contextual -dsimp (disch := omega) only [↓goDown, goUp, cr, simprocAttr, u0f, x0, c0, c1, hia, hac, s4, a7, w1, t0, r1, r2, dd, tl1, tu1, tl2, tu2, ih]
    · rw [hs] at a7 w1 ⊢
      simp only [show ((4 : Nat) : Int) = 4 from rfl] at a7 w1
      by_cases q0 : u.length < 4
      · have t0 : ((u.length : Int) < 4) = True := eq_true (by omega)
        rw [if_pos q0, if_pos rfl]
        exact ⟨[.cells [.int .u8 lo, .int .u8 hi]], by simp +contextual -dsimp (disch := omega) only [↓goDown, goUp, cr, simprocAttr, u0f, x0, c0, c1, hia, hac, s4, a7, w1, t0]⟩
      · have t0 : ((u.length : Int) < 4) = False := eq_false (by omega)
        have r1 := r1 (by omega)
        have r2 := r2 (by omega)
        have r3 := r3 (by omega)
        have dd := d4 (by omega)
        rw [if_neg q0]
        by_cases l1 : b1 < lo
        · have tl1 : ((b1 : Int) < (lo : Int)) = True := eq_true (by omega)
          rw [if_pos (show b1 < lo ∨ hi < b1 from .inl l1), if_pos rfl]
          exact ⟨[.cells [.int .u8 lo, .int .u8 hi]], by simp +contextual -dsimp (disch := omega) only [↓goDown, goUp, cr, simprocAttr, u0f, x0, c0, c1, hia, hac, s4, a7, w1, t0, r1, r2, r3, dd, tl1]⟩
        · have tl1 : ((b1 : Int) < (lo : Int)) = False := eq_false (by omega)
          by_cases u1 : hi < b1
          · have tu1 : ((hi : Int) < (b1 : Int)) = True := eq_true (by omega)
            rw [if_pos (show b1 < lo ∨ hi < b1 from .inr u1), if_pos rfl]
            exact ⟨[.cells [.int .u8 lo, .int .u8 hi]], by simp +contextual -dsimp (disch := omega) only [↓goDown, goUp, cr, simprocAttr, u0f, x0, c0, c1, hia, hac, s4, a7, w1, t0, r1, r2, r3, dd, tl1, tu1]⟩
          · have tu1 : ((hi : Int) < (b1 : Int)) = False := eq_false (by omega)
            rw [if_neg (show ¬ (b1 < lo ∨ hi < b1) by omega)]
            rw [if_neg (show ¬ 4 ≤ 2 by decide)]
            by_cases l2 : b2 < 128
            · have tl2 : ((b2 : Int) < (128 : Int)) = True := eq_true (by omega)
              rw [if_pos (show b2 < 128 ∨ 191 < b2 from .inl l2), if_pos rfl]
              exact ⟨[.cells [.int .u8 lo, .int .u8 hi]], by simp +contextual -dsimp (disch := omega) only [↓goDown, goUp, cr, simprocAttr, u0f, x0, c0, c1, hia, hac, s4, a7, w1, t0, r1, r2, r3, dd, tl1, tu1, tl2]⟩
            · have tl2 : ((b2 : Int) < (128 : Int)) = False := eq_false (by omega)
              by_cases u2 : 191 < b2
              · have tu2 : ((191 : Int) < (b2 : Int)) = True := eq_true (by omega)
                rw [if_pos (show b2 < 128 ∨ 191 < b2 from .inr u2), if_pos rfl]
                exact ⟨[.cells [.int .u8 lo, .int .u8 hi]], by simp +contextual -dsimp (disch := omega) only [↓goDown, goUp, cr, simprocAttr, u0f, x0, c0, c1, hia, hac, s4, a7, w1, t0, r1, r2, r3, dd, tl1, tu1, tl2, tu2]⟩
              · have tu2 : ((191 : Int) < (b2 : Int)) = False := eq_false (by omega)
                rw [if_neg (show ¬ (b2 < 128 ∨ 191 < b2) by omega)]
                rw [if_neg (show ¬ 4 ≤ 3 by decide)]
                by_cases l3 : b3 < 128
                · have tl3 : ((b3 : Int) < (128 : Int)) = True := eq_true (by omega)
                  rw [if_pos (show b3 < 128 ∨ 191 < b3 from .inl l3), if_pos rfl]
                  exact ⟨[.cells [.int .u8 lo, .int .u8 hi]], by simp +contextual -dsimp (disch := omega) only [↓goDown, goUp, cr, simprocAttr, u0f, x0, c0, c1, hia, hac, s4, a7, w1, t0, r1, r2, r3, dd, tl1, tu1, tl2, tu2, tl3]⟩
                · have tl3 : ((b3 : Int) < (128 : Int)) = False := eq_false (by omega)
                  by_cases u3 : 191 < b3
                  · have tu3 : ((191 : Int) < (b3 : Int)) = True := eq_true (by omega)
                    rw [if_pos (show b3 < 128 ∨ 191 < b3 from .inr u3), if_pos rfl]
                    exact ⟨[.cells [.int .u8 lo, .int .u8 hi]], by simp +contextual -dsimp (disch := omega) only [↓goDown, goUp, cr, simprocAttr, u0f, x0, c0, c1, hia, hac, s4, a7, w1, t0, r1, r2, r3, dd, tl1, tu1, tl2, tu2, tl3, tu3]⟩
                  · have tu3 : ((191 : Int) < (b3 : Int)) = False := eq_false (by omega)
                    rw [if_neg (show ¬ (b3 < 128 ∨ 191 < b3) by omega)]
                    rw [if_neg (show ¬ 4 = 0 by decide)]
                    obtain ⟨E, ih⟩ := hcont 4 (by decide)
                    refine ⟨[.cells [.int .u8 lo, .int .u8 hi]] ++ E, ?_⟩
                    rw [← u65]
                    simp +contextual -dsimp (disch := omega) only [↓goDown, goUp, cr, simprocAttr, u0f, x0, c0, c1, hia, hac, s4, a7, w1, t0, r1, r2, r3, dd, tl1, tu1, tl2, tu2, tl3, tu3, ih]
theorem u5u {v2 : PV} : ∀ n, VOk v2 n
  | 0 => fun u H hn hu => by
    obtain rfl : u = [] := List.eq_nil_of_length_eq_zero (by omega)
    refine ⟨[], ?_⟩
    rw [u0e, show hadd H [] = H from List.append_nil _]
    simp +contextual -dsimp (disch := omega) only [↓goDown, goUp, cr, simprocAttr, u0f, List.length_nil, show ((0 : Nat) : Int) = 0 from rfl, Int.lt_irrefl]
    rfl
  | n + 1 => fun u H hn hu => by
    by_cases h : u = []
    · subst h
      refine ⟨[], ?_⟩
      rw [u0e, show hadd H [] = H from List.append_nil _]
      simp +contextual -dsimp (disch := omega) only [↓goDown, goUp, cr, simprocAttr, u0f, List.length_nil, show ((0 : Nat) : Int) = 0 from rfl, Int.lt_irrefl]
      rfl
    · by_cases h0 : bN u 0 < 128
      · exact ul0 (v3 := v2) (u5u n) hn hu h h0
      · exact ukg (u5u n) hn hu h (by omega)
theorem ujd {u : List UInt8} (hu : u.length < 2 ^ 60) : run (C u0j [SB u]) H = some (.ok (.bool (Lib.validD u)) H) := by
  obtain ⟨E, e⟩ := u5u (v2 := .bool false) u.length u H (Nat.le_refl _) hu
  rw [u38]
  simp +contextual -dsimp (disch := omega) only [↓goDown, goUp, cr, simprocAttr, e]
theorem u57 {b : List UInt8} : ∀ (f a : Nat), b.length - a < f → (badAt b f a = none ↔ Lib.validD (b.drop a) = true)
  | 0, a, h => by omega
  | f + 1, a, h => by
    rw [badAt]
    by_cases hl : a < b.length
    · rw [if_pos hl]
      have hne : b.drop a ≠ [] := fun g => by have := congrArg List.length g; rw [List.length_drop] at this; simp at this; omega
      by_cases h0 : bN (b.drop a) 0 < 128
      · have e : letL (b.drop a) = 1 := by unfold letL letN; rw [if_pos h0]
        rw [e, if_neg (by decide), u57 f (a + 1) (by omega), Lib.validD_ascii 1 _ (uio hne h0), List.drop_drop]
      · rw [u9j hne (by omega)]
        by_cases h1 : letL (b.drop a) = 0
        · rw [if_pos h1, if_pos h1]
          simp
        · rw [if_neg h1, if_neg h1, u57 f _ (by omega), List.drop_drop]
    · rw [if_neg hl, List.drop_eq_nil_of_le (by omega)]
      simp
      rfl
theorem uh2 {b : List UInt8} : Lib.validD b = (utfN b).isNone := by
  have h := u57 (b := b) (b.length + 1) 0 (by omega)
  unfold utfN
  rw [List.drop_zero] at h
  cases hb : badAt b (b.length + 1) 0 with
  | none => rw [hb] at h; exact h.mp rfl
  | some x =>
    rw [hb] at h
    cases hv : Lib.validD b with
    | false => rfl
    | true => exact absurd (h.mpr hv) (by simp)
end Go.Proofs.YtiamjepnlnjlfaaDoor.Pi.Q
namespace Go.Proofs.YtiamjepnlnjlfaaDoor.Pi.Q
open Go Go.Proofs.YtiamjepnlnjlfaaDoor.Pi
attribute [local congr] ite_congr
variable {H : Heap} {z : Bool}
def rName (b : List UInt8) (e p : Nat) : Rs (List UInt8) :=
  match rdU b 32 e p with
  | .err a w => .err a w
  | .ok n q => if 65536 < n then .err p 2 else if e - q < n then .err e 3 else match utfN ((b.take (q + n)).drop q) with | some x => .err (q + x) 21 | none => .ok ((b.take (q + n)).drop q) (q + n)
def flF (a w : Nat) : PV := .iface u1f (.agg [.int .i64 a, .int .i64 w])
def outN (H : Heap) : Rs (List UInt8) → Option (Out PV)
  | .ok u q => some (.ok (.tup [SB u, .int .i64 q]) H)
  | .err a w => some (.pan (flF a w) H)
def tupN : Rs (List UInt8) → PV
  | .ok u q => .tup [SB u, .int .i64 q, .int .i64 0]
  | .err a w => .tup [.str ⟨#[]⟩, .int .i64 a, .int .i64 w]
theorem ue8 {n : Nat} {s : ByteArray} : (PV.str s).low n = true := nrfl rfl
theorem utf_le {b : List UInt8} {a : Nat} (h : utfN b = some a) : a ≤ b.length := by
  have : ∀ f p, p ≤ b.length → badAt b f p = some a → a ≤ b.length := by
    intro f
    induction f with
    | zero => intro p _ h; cases h
    | succ f ih =>
      intro p hp h
      rw [badAt] at h
      by_cases hl : p < b.length
      · rw [if_pos hl] at h
        by_cases h0 : letL (b.drop p) = 0
        · rw [if_pos h0] at h
          have hol : ∀ n, opF (bN b p) (bN b (p + 1)) (bN b (p + 2)) n ≤ n := fun n => by
            induction n with
            | zero => exact Nat.le_refl _
            | succ n ih => rw [opF]; split <;> omega
          have := hol (min 4 (b.length - p))
          injection h with h
          omega
        · rw [if_neg h0] at h
          exact ih _ (u96 hl) h
      · rw [if_neg hl] at h; cases h
  exact this _ 0 (Nat.zero_le _) h
theorem ujw {b : List UInt8} {e p : Nat} (he : e ≤ b.length) (hb : b.length < 2 ^ 60) (hp : p ≤ e) :
    run (C u1l [BS z b, .int .i64 p, .int .i64 e]) H = outN H (rName b e p) := by
  have h1 := fun K => uha (H := K) (z := z) (b := b) (p := p) he (by omega) hp
  rw [u8z]
  unfold rName
  cases hr : rdU b 32 e p with
  | err a w =>
    rw [hr] at h1
    have hw := udm hr
    have c1 : ((w : Int) = 0) = False := eq_false (by omega)
    simp only [retK] at h1
    simp +contextual -dsimp (disch := omega) only [↓goDown, goUp, cr, simprocAttr, h1, c1, outN, flF]
  | ok n q =>
    rw [hr] at h1
    obtain ⟨hv, hq, hqe⟩ := u71 hr
    simp only [retK] at h1
    dsimp only
    by_cases g1 : 65536 < n
    · have g1' : ((65536 : Int) < (n : Int)) = True := eq_true (by omega)
      rw [if_pos g1]
      simp +contextual -dsimp (disch := omega) only [↓goDown, goUp, cr, simprocAttr, h1, u1b, g1', outN, flF]
    · have g1' : ((65536 : Int) < (n : Int)) = False := eq_false (by omega)
      rw [if_neg g1]
      have e1 : ((e : Int) - (q : Int)) = ((e - q : Nat) : Int) := by omega
      have e2 : IntKind.i64.wrap ((e - q : Nat) : Int) = ((e - q : Nat) : Int) := w_i64 (by omega)
      have e3 : IntKind.u64.wrap ((e - q : Nat) : Int) = ((e - q : Nat) : Int) := w_u64 (by omega)
      have e4 : IntKind.u64.wrap (n : Int) = (n : Int) := w_u64 (by omega)
      by_cases g2 : e - q < n
      · have g2' : (((e - q : Nat) : Int) < (n : Int)) = True := eq_true (by omega)
        rw [if_pos g2]
        simp +contextual -dsimp (disch := omega) only [↓goDown, goUp, cr, simprocAttr, h1, u1b, u1p, g1', e1, e2, e3, e4, g2', outN, flF]
      · have g2' : (((e - q : Nat) : Int) < (n : Int)) = False := eq_false (by omega)
        rw [if_neg g2]
        have e5 : ((q : Int) + (n : Int)) = ((q + n : Nat) : Int) := rfl
        have e6 : IntKind.i64.wrap ((q + n : Nat) : Int) = ((q + n : Nat) : Int) := w_i64 (by omega)
        have e7 : IntKind.i64.wrap (n : Int) = (n : Int) := w_i64 (by omega)
        have hs := fun K => ued (H := K) (z := z) (x := b) (n := q) (m := q + n) (by omega) (by omega)
        have hl : ((b.take (q + n)).drop q).length = n := by rw [List.length_drop, List.length_take]; omega
        have hu := fun K => ui3 (H := K) (z := z) (b := (b.take (q + n)).drop q) (by omega)
        have hc := fun K o => cv_BS (H := K) (z := z) (o := o) (u := (b.take (q + n)).drop q)
        cases ht : utfN ((b.take (q + n)).drop q) with
        | none =>
          rw [ht] at hu
          simp only [utfR] at hu
          simp +contextual -dsimp (disch := omega) only [↓goDown, goUp, cr, simprocAttr, h1, u1b, u1p, u2k, u29, g1', e1, e2, e3, e4, g2', e7, e5, e6, hs, hu, un_not, hc, outN, flF]
        | some x =>
          have hx := utf_le ht
          have e8 : ((q : Int) + (x : Int)) = ((q + x : Nat) : Int) := rfl
          have e9 : IntKind.i64.wrap ((q + x : Nat) : Int) = ((q + x : Nat) : Int) := w_i64 (by omega)
          rw [ht] at hu
          simp only [utfR] at hu
          simp +contextual -dsimp (disch := omega) only [↓goDown, goUp, cr, simprocAttr, h1, u1b, u1p, u2k, u29, g1', e1, e2, e3, e4, g2', e7, e5, e6, hs, hu, un_not, e8, e9, outN, flF]
theorem umc {b : List UInt8} {e p : Nat} (he : e ≤ b.length) (hb : b.length < 2 ^ 60) (hp : p ≤ e) : run (C u2g [BS z b, .int .i64 p, .int .i64 e]) H = some (.ok (retK .u32 (rdU b 32 e p)) H) := by
  have h1 := fun K => uks (H := K) (b := b) (z := z) (a := p) (e := e) (B := 32) he (by omega) (.inl rfl) hp
  rw [u5j]
  cases hr : rdU b 32 e p with
  | ok v q =>
    have hv := u71 hr
    rw [hr] at h1
    simp only [retU] at h1
    have h1 : ∀ K, run (C u0l [BS z b, .int .i64 p, .int .i64 e, .int .i64 32, .bool false]) K = _ := h1
    have e1 : IntKind.u32.wrap (v : Int) = (v : Int) := w_u32 (by omega)
    simp +contextual -dsimp (disch := omega) only [↓goDown, goUp, cr, simprocAttr, h1, e1, retK]
  | err a w =>
    rw [hr] at h1
    simp only [retU] at h1
    have h1 : ∀ K, run (C u0l [BS z b, .int .i64 p, .int .i64 e, .int .i64 32, .bool false]) K = _ := h1
    simp +contextual -dsimp (disch := omega) only [↓goDown, goUp, cr, simprocAttr, h1, retK]
theorem uiu {b : List UInt8} {e p : Nat} (he : e ≤ b.length) (hb : b.length < 2 ^ 60) (hp : p ≤ e) :
    run (C u20 [BS z b, .int .i64 p, .int .i64 e]) H = some (.ok (tupN (rName b e p)) H) := by
  have h1 := fun K => umc (H := K) (z := z) (b := b) (p := p) he hb hp
  rw [u45]
  unfold rName
  cases hr : rdU b 32 e p with
  | err a w =>
    rw [hr] at h1
    have hw := udm hr
    have c1 : ((w : Int) = 0) = False := eq_false (by omega)
    simp only [retK] at h1
    simp +contextual -dsimp (disch := omega) only [↓goDown, goUp, cr, simprocAttr, h1, c1, tupN]
  | ok n q =>
    rw [hr] at h1
    obtain ⟨hv, hq, hqe⟩ := u71 hr
    simp only [retK] at h1
    dsimp only
    by_cases g1 : 65536 < n
    · have g1' : ((65536 : Int) < (n : Int)) = True := eq_true (by omega)
      rw [if_pos g1]
      simp +contextual -dsimp (disch := omega) only [↓goDown, goUp, cr, simprocAttr, h1, g1', tupN]
    · have g1' : ((65536 : Int) < (n : Int)) = False := eq_false (by omega)
      rw [if_neg g1]
      have e1 : ((e : Int) - (q : Int)) = ((e - q : Nat) : Int) := by omega
      have e2 : IntKind.i64.wrap ((e - q : Nat) : Int) = ((e - q : Nat) : Int) := w_i64 (by omega)
      have e7 : IntKind.i64.wrap (n : Int) = (n : Int) := w_i64 (by omega)
      by_cases g2 : e - q < n
      · have g2' : (((e - q : Nat) : Int) < (n : Int)) = True := eq_true (by omega)
        rw [if_pos g2]
        simp +contextual -dsimp (disch := omega) only [↓goDown, goUp, cr, simprocAttr, h1, g1', e1, e2, e7, g2', tupN]
      · have g2' : (((e - q : Nat) : Int) < (n : Int)) = False := eq_false (by omega)
        rw [if_neg g2]
        have e5 : ((q : Int) + (n : Int)) = ((q + n : Nat) : Int) := rfl
        have e6 : IntKind.i64.wrap ((q + n : Nat) : Int) = ((q + n : Nat) : Int) := w_i64 (by omega)
        have hs := fun K => ued (H := K) (z := z) (x := b) (n := q) (m := q + n) (by omega) (by omega)
        have hl : ((b.take (q + n)).drop q).length = n := by rw [List.length_drop, List.length_take]; omega
        have hu := fun K => ua6 (H := K) (z := z) (b := (b.take (q + n)).drop q) (by omega)
        have hc := fun K o => cv_BS (H := K) (z := z) (o := o) (u := (b.take (q + n)).drop q)
        cases ht : utfN ((b.take (q + n)).drop q) with
        | none =>
          rw [ht] at hu
          simp only [utfR] at hu
          simp +contextual -dsimp (disch := omega) only [↓goDown, goUp, cr, simprocAttr, h1, g1', e1, e2, e7, g2', e5, e6, hs, hu, un_not, hc, tupN]
        | some x =>
          have hx := utf_le ht
          have e8 : ((q : Int) + (x : Int)) = ((q + x : Nat) : Int) := rfl
          have e9 : IntKind.i64.wrap ((q + x : Nat) : Int) = ((q + x : Nat) : Int) := w_i64 (by omega)
          rw [ht] at hu
          simp only [utfR] at hu
          simp +contextual -dsimp (disch := omega) only [↓goDown, goUp, cr, simprocAttr, h1, g1', e1, e2, e7, g2', e5, e6, hs, hu, un_not, e8, e9, tupN]
end Go.Proofs.YtiamjepnlnjlfaaDoor.Pi.Q
namespace Go.Proofs.YtiamjepnlnjlfaaDoor.Pi.Q
open Go Go.Proofs.YtiamjepnlnjlfaaDoor.Pi
attribute [local congr] ite_congr
variable {H : Heap} {z : Bool}
def nameP (b : List UInt8) (at_ : Int) : PV := if at_ < 0 ∨ (b.length : Int) < at_ then .tup [.str ⟨#[]⟩, .int .i64 0, .int .i64 1] else tupN (rName b b.length at_.toNat)
theorem ukd {b : List UInt8} {e p a w : Nat} (h : rName b e p = .err a w) : w ≠ 0 := by
  unfold rName at h
  cases hr : rdU b 32 e p with
  | err a' w' => rw [hr] at h; injection h with h1 h2; subst h2; exact udm hr
  | ok n q =>
    rw [hr] at h
    dsimp only at h
    repeat' split at h
    all_goals first | (injection h with h1 h2; omega) | cases h
theorem umy {b : List UInt8} (hb : b.length < 2 ^ 60) {at_ : Int} : run (C u48 [BS z b, .int .i64 at_]) H = some (.ok (nameP b at_) H) := by
  rw [uan]
  unfold nameP
  by_cases h1 : at_ < 0
  · rw [if_pos (.inl h1)]
    simp +contextual -dsimp (disch := omega) only [↓goDown, goUp, cr, simprocAttr, eq_true h1]
  · by_cases h2 : (b.length : Int) < at_
    · rw [if_pos (.inr h2)]
      simp +contextual -dsimp (disch := omega) only [↓goDown, goUp, cr, simprocAttr, h1, h2, List.length_map]
    · rw [if_neg (by omega)]
      obtain ⟨p, rfl⟩ := Int.eq_ofNat_of_zero_le (show 0 ≤ at_ by omega)
      rw [Int.toNat_natCast]
      have hk := fun K => ujw (H := K) (z := z) (b := b) (e := b.length) (p := p) (Nat.le_refl _) hb (by omega)
      cases hr : rName b b.length p with
      | ok u q =>
        rw [hr] at hk
        simp only [outN, tupN] at hk ⊢
        simp +contextual -dsimp (disch := omega) only [↓goDown, goUp, cr, simprocAttr, h1, h2, List.length_map, u4a, u49, run_mf, hk, flF, u3c, u3g, run_ta, bi_if, bi_ifn, cutL, uj4, Nat.reduceBeqDiff]
      | err a w =>
        have hw := ukd hr
        have c1 : ((w : Int) = 0) = False := eq_false (by omega)
        rw [hr] at hk
        simp only [outN, tupN] at hk ⊢
        simp +contextual -dsimp (disch := omega) only [↓goDown, goUp, cr, simprocAttr, h1, h2, List.length_map, u4a, u49, run_mf, hk, flF, u3c, u3g, run_ta, bi_if, bi_ifn, cutL, uj4, Nat.reduceBeqDiff, c1]
theorem uky {b : List UInt8} (hb : b.length < 2 ^ 60) {at_ : Int} : run (C u25 [BS z b, .int .i64 at_]) H = some (.ok (nameP b at_) H) := by
  rw [u4r]
  unfold nameP
  by_cases h1 : at_ < 0
  · rw [if_pos (.inl h1)]
    simp +contextual -dsimp (disch := omega) only [↓goDown, goUp, cr, simprocAttr, eq_true h1]
  · by_cases h2 : (b.length : Int) < at_
    · rw [if_pos (.inr h2)]
      simp +contextual -dsimp (disch := omega) only [↓goDown, goUp, cr, simprocAttr, h1, h2, List.length_map]
    · rw [if_neg (by omega)]
      obtain ⟨p, rfl⟩ := Int.eq_ofNat_of_zero_le (show 0 ≤ at_ by omega)
      rw [Int.toNat_natCast]
      have hk := fun K => uiu (H := K) (z := z) (b := b) (e := b.length) (p := p) (Nat.le_refl _) hb (by omega)
      cases hr : rName b b.length p with
      | ok u q =>
        rw [hr] at hk
        simp only [tupN] at hk ⊢
        simp +contextual -dsimp (disch := omega) only [↓goDown, goUp, cr, simprocAttr, h1, h2, List.length_map, hk]
      | err a w =>
        rw [hr] at hk
        simp only [tupN] at hk ⊢
        simp +contextual -dsimp (disch := omega) only [↓goDown, goUp, cr, simprocAttr, h1, h2, List.length_map, hk]
def wName (u : List UInt8) : List UInt8 × Nat := if 65536 < u.length then ([], 2) else if (utfN u).isSome then ([], 21) else (putU u.length ++ u, 0)
def putP (u : List UInt8) : PV := .tup [accB (wName u).1, .int .i64 (wName u).2]
theorem ap_str {acc u : List UInt8} {K : Heap} (ha : acc ≠ []) (h : acc.length + u.length ≤ 140737488355328) : run (ap true 1 1 (accB acc) (SB u)) K = some (.ok (accB (acc ++ u)) K) := by
  cases acc with
  | nil => exact absurd rfl ha
  | cons y a =>
    unfold accB accP run ap tail growB
    have h2 : ((byt y :: bytes a).length + (bytes u).length) * max 1 1 ≤ 140737488355328 := by simpa [bytes] using h
    have e : (u.map fun b => PV.int .u8 b.toNat) = bytes u := rfl
    simp only [bytes, List.map_cons, List.cons_append, List.map_append, beq_self_eq_true, Bool.or_true, cond_true, cond_false, Bool.true_and, e] at h2 ⊢
    rw [decide_eq_true h2]
    rfl
theorem low_B {b : List UInt8} {n : Nat} : (accB b).low n = true := uei
theorem ua7 {b : List UInt8} : isTup (accB b) = false := u7f
theorem uhf {u : List UInt8} (hu : u.length < 2 ^ 60) : run (C u35 [SB u]) H = some (.ok (putP u) H) := by
  have hv := fun K => ujd (H := K) (u := u) (by omega)
  rw [uh2] at hv
  have hp := fun K => umq (H := K) (n := u.length) (by omega)
  have h10 := uey (n := u.length) (by omega)
  have ha := fun (h : u.length ≤ 65536) K => ap_str (K := K) (acc := putU u.length) (u := u) ujl (by omega)
  have e1 : IntKind.u64.wrap (u.length : Int) = (u.length : Int) := w_u64 (by omega)
  rw [u6m]
  unfold putP wName
  by_cases g : 65536 < u.length
  · have g' : ((65536 : Int) < (u.length : Int)) = True := eq_true (by omega)
    rw [if_pos g]
    simp +contextual -dsimp (disch := omega) only [↓goDown, goUp, cr, simprocAttr, u0f, g']
    rfl
  · have g' : ((65536 : Int) < (u.length : Int)) = False := eq_false (by omega)
    rw [if_neg g]
    have ha := ha (by omega)
    cases ht : utfN u with
    | some x =>
      rw [ht] at hv
      simp only [Option.isNone_some] at hv
      rw [if_pos (show (some x).isSome = true from rfl)]
      simp +contextual -dsimp (disch := omega) only [↓goDown, goUp, cr, simprocAttr, u0f, g', hv, un_not]
      rfl
    | none =>
      rw [ht] at hv
      simp only [Option.isNone_none] at hv
      rw [if_neg (show ¬ (none : Option Nat).isSome = true from by simp)]
      simp +contextual -dsimp (disch := omega) only [↓goDown, goUp, cr, simprocAttr, u0f, g', hv, un_not, e1, hp, ha, low_B, ua7]
theorem ums {u : List UInt8} {e : TypeId} {o : Bool} : run (cv (.strToBytes e) o (SB u)) H = some (.ok (BS false u) H) := nrfl rfl
theorem udw {u : List UInt8} (hu : u.length < 2 ^ 60) : run (C u1n [SB u]) H = some (.ok (putP u) H) := by
  have hv := fun K => ua6 (H := K) (z := false) (b := u) (by omega)
  have hp := fun K => ult (H := K) (n := u.length) (by omega)
  have h10 := uey (n := u.length) (by omega)
  have ha := fun (h : u.length ≤ 65536) K => ap_str (K := K) (acc := putU u.length) (u := u) ujl (by omega)
  have e1 : IntKind.u64.wrap (u.length : Int) = (u.length : Int) := w_u64 (by omega)
  have hs := fun K e o => ums (H := K) (u := u) (e := e) (o := o)
  rw [u3q]
  unfold putP wName
  by_cases g : 65536 < u.length
  · have g' : ((65536 : Int) < (u.length : Int)) = True := eq_true (by omega)
    rw [if_pos g]
    simp +contextual -dsimp (disch := omega) only [↓goDown, goUp, cr, simprocAttr, u0f, g']
    rfl
  · have g' : ((65536 : Int) < (u.length : Int)) = False := eq_false (by omega)
    rw [if_neg g]
    have ha := ha (by omega)
    cases ht : utfN u with
    | some x =>
      rw [ht] at hv
      simp only [utfR] at hv
      rw [if_pos (show (some x).isSome = true from rfl)]
      simp +contextual -dsimp (disch := omega) only [↓goDown, goUp, cr, simprocAttr, u0f, g', hs, hv, un_not]
      rfl
    | none =>
      rw [ht] at hv
      simp only [utfR] at hv
      rw [if_neg (show ¬ (none : Option Nat).isSome = true from by simp)]
      simp +contextual -dsimp (disch := omega) only [↓goDown, goUp, cr, simprocAttr, u0f, g', hs, hv, un_not, e1, hp, ha, low_B, ua7]
end Go.Proofs.YtiamjepnlnjlfaaDoor.Pi.Q
namespace Go.Proofs.YtiamjepnlnjlfaaDoor.Pi.Q
open Go Go.Proofs.YtiamjepnlnjlfaaDoor.Pi
attribute [local congr] ite_congr
variable {H : Heap} {z : Bool}
def mk (i : Nat) : List UInt8 := (List.range i).map fun k => UInt8.ofNat (200 + k)
theorem umw {i : Nat} : mk (i + 1) = mk i ++ [UInt8.ofNat (200 + i)] := by
  unfold mk
  rw [List.range_succ, List.map_append]
  rfl
theorem mk_len {i : Nat} : (mk i).length = i := by unfold mk; simp
theorem uc4 {b : List UInt8} {v2 : PV} (hb : b.length ≤ 140737488351232) : ∀ (m i : Nat), i + m = 9 → run (u0o v2 (accB (b ++ mk i)) (.int .i64 i)) H = some (.ok (accB (b ++ mk 9)) H)
  | 0, i, h => by
    obtain rfl : i = 9 := by omega
    rw [u1m]
    simp +contextual -dsimp (disch := omega) only [↓goDown, goUp, cr, simprocAttr, show ((9 : Nat) : Int) = 9 from rfl, Int.lt_irrefl, low_B, ua7]
  | m + 1, i, h => by
    have g : ((i : Int) < 9) = True := eq_true (by omega)
    have ih := uc4 hb (v2 := v2) m (i + 1) (by omega)
    have e1 : ((200 : Int) + (i : Int)) = ((200 + i : Nat) : Int) := rfl
    have w1 : IntKind.i64.wrap ((200 + i : Nat) : Int) = ((200 + i : Nat) : Int) := w_i64 (by omega)
    have w2 : IntKind.u8.wrap ((200 + i : Nat) : Int) = ((200 + i : Nat) : Int) := w_u8 (by omega)
    have w3 : IntKind.i64.wrap ((i + 1 : Nat) : Int) = ((i + 1 : Nat) : Int) := w_i64 (by omega)
    have e3 : ((i : Int) + 1) = ((i + 1 : Nat) : Int) := rfl
    have hb1 := fun K => bs_byt (K := K) (n := 200 + i) (by omega)
    have hb2 := fun K => u8s (K := K) (n := 200 + i) (by omega)
    have ha := fun K => ap_B (K := K) (acc := b ++ mk i) (c := UInt8.ofNat (200 + i)) (by rw [List.length_append, mk_len]; omega)
    rw [List.append_assoc, ← umw] at ha
    rw [u1m]
    simp +contextual -dsimp (disch := omega) only [↓goDown, goUp, cr, simprocAttr, g, e1, w1, w2, hb1, hb2, ha, e3, w3, ih]
theorem ap_nil {b : List UInt8} (hb : b.length ≤ 140737488355328) : run (ap true 1 1 (.slice false true 0 []) (BS z b)) H = some (.ok (accB b) H) := by
  unfold run ap tail growB
  cases b with
  | nil => simp only [bytes, List.map_nil, beq_self_eq_true, Bool.or_true, cond_true, List.isEmpty_nil]; rfl
  | cons c r =>
    have h2 : (bytes (c :: r)).length * max 1 1 ≤ 140737488355328 := by simpa [bytes] using hb
    simp only [beq_self_eq_true, Bool.or_true, cond_true, decide_eq_true h2, bytes, List.map_cons, List.isEmpty_cons, cond_false]
    simp only [bytes, List.map_cons] at h2
    rw [decide_eq_true h2]
    rfl
theorem uk1 {b : List UInt8} (hb : b.length ≤ 140737488351232) : run (C u12 [BS z b]) H = some (.ok (accB (b ++ mk 9)) H) := by
  have h := fun v2 K => uc4 (H := K) (v2 := v2) hb 9 0 (by omega)
  rw [show b ++ mk 0 = b from by simp [mk]] at h
  have h : ∀ v2 K, run (u0o v2 (accB b) (.int .i64 0)) K = _ := h
  have ha := fun K => ap_nil (H := K) (z := z) (b := b) (by omega)
  rw [u4w]
  simp +contextual -dsimp (disch := omega) only [↓goDown, goUp, cr, simprocAttr, ha, h, low_B, ua7]
theorem u93 {b : List UInt8} : strip (accB (b ++ mk 9)) = BS false (b ++ mk 9) := by
  cases b <;> rfl
theorem uhy {b : List UInt8} : shutP 1 (bytes (b ++ mk 9)) = BS false (b ++ mk 9) := by
  cases b <;> rfl
theorem toL_SB {u : List UInt8} : ByteArray.toList ⟨⟨u⟩⟩ = u := ByteArray.toList_eq ⟨⟨u⟩⟩
theorem cv_any {o z : Bool} {s : Nat} {u : List UInt8} : run (cv .bytesToStr o (.slice false z s (bytes u))) H = some (.ok (SB u) H) := by
  unfold run cv
  simp only [u59]
  rfl
theorem uib {z z' : Bool} {s s' : Nat} {x y : List UInt8} : run (C u11 [.slice false z s (bytes x), .slice false z' s' (bytes y)]) H = some (.ok (.bool (x == y)) H) := by
  have hc := fun K o z s u => cv_any (H := K) (o := o) (z := z) (s := s) (u := u)
  rw [u4x]
  simp +contextual -dsimp (disch := omega) only [↓goDown, goUp, cr, simprocAttr, hc, toL_SB]
theorem ump {b : List UInt8} (hb : b.length ≤ 140737488351232) : run (C u27 [BS false (b ++ mk 9), BS z b]) H = some (.ok (.bool true) H) := by
  have hw := fun K => uk1 (H := K) (z := z) hb
  have hs := fun K => uib (H := K) (z := false) (z' := false) (s := 1) (s' := 1) (x := b ++ mk 9) (y := b ++ mk 9)
  rw [u4v]
  simp +contextual -dsimp (disch := omega) only [↓goDown, goUp, cr, simprocAttr, hw, u93, hs, beq_self_eq_true]
theorem uil {z z' : Bool} {s s' : Nat} {x : List UInt8} : run (C u11 [.slice false z s (bytes x), .slice false z' s' (bytes x)]) H = some (.ok (.bool true) H) := by
  rw [uib, beq_self_eq_true]
theorem shut_B {u : List UInt8} : ∃ z s, shutP 1 (bytes u) = .slice false z s (bytes u) := by cases u <;> exact ⟨_, _, rfl⟩
theorem uly {u : List UInt8} : stripC (accB u) = shutP 1 (bytes u) := uhi
theorem umn {u : List UInt8} : strip (accB u) = shutP 1 (bytes u) := uke
theorem uk2 {b : List UInt8} {at_ : Int} : ∃ s p w, nameP b at_ = .tup [.str s, .int .i64 p, .int .i64 w] := by
  unfold nameP
  split
  · exact ⟨_, _, _, rfl⟩
  · cases rName b b.length at_.toNat <;> exact ⟨_, _, _, rfl⟩
theorem ulo {o : Option Nat} : ∃ p w, utfR o = .tup [.int .i64 p, .bool w] := by cases o <;> exact ⟨_, _, rfl⟩
theorem names_true {b u : List UInt8} {at_ : Int} (hb : b.length ≤ 140737488351232) (hu : u.length < 2 ^ 60) : run (C u21 [BS z b, .int .i64 at_, SB u]) H = some (.ok (.bool true) H) := by
  have hw := fun K => uk1 (H := K) (z := z) hb
  have hsl := fun K => uin (H := K) (z := false) (x := b ++ mk 9) (n := b.length) (by rw [List.length_append]; omega)
  rw [List.take_left] at hsl
  have h1 := fun K => ui3 (H := K) (z := false) (b := b) (by omega)
  have h2 := fun K => ua6 (H := K) (z := z) (b := b) (by omega)
  have h3 := fun K => umy (H := K) (z := false) (b := b) (at_ := at_) (by omega)
  have h4 := fun K => uky (H := K) (z := z) (b := b) (at_ := at_) (by omega)
  have h5 := fun K => ump (H := K) (z := z) hb
  have h6 := fun K => uhf (H := K) hu
  have h7 := fun K => udw (H := K) hu
  obtain ⟨p, w, e1⟩ := ulo (o := utfN b)
  obtain ⟨s, q, v, e2⟩ := uk2 (b := b) (at_ := at_)
  rw [e1] at h1 h2
  rw [e2] at h3 h4
  unfold putP at h6 h7
  generalize wName u = x at h6 h7
  obtain ⟨x, e⟩ := x
  dsimp only at h6 h7
  obtain ⟨z1, s1, e3⟩ := shut_B (u := x)
  have h8 := fun K => uil (H := K) (z := z1) (z' := z1) (s := s1) (s' := s1) (x := x)
  rw [u3a]
  simp +contextual -dsimp (disch := omega) only [↓goDown, goUp, cr, simprocAttr, hw, u93, List.length_map, hsl, h1, h2, h3, h4, h5, un_not, h6, h7, uly, umn, umo, uhy, e3, h8]
end Go.Proofs.YtiamjepnlnjlfaaDoor.Pi.Q
