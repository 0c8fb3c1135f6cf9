/- What the law rests on, part 5 of 6: a reading of the program's code over told data, and what it comes to. -/
import Derived.Test.YthidcpkcfoldmaaGreatPiR3
set_option linter.unusedVariables false
set_option linter.unusedSimpArgs false
set_option maxRecDepth 100000
namespace Go.Proofs.YthidcpkcfoldmaaGreat.Pi.Q
open Go Go.Proofs.YthidcpkcfoldmaaGreat.Pi
attribute [local congr] ite_congr
theorem uqi {H : Heap} {b : List UInt8} {z : Bool} {c p : Nat} (hH : hget H c = some (rst z b p 0 0)) (hb : b.length < 2 ^ 61) (hp : p ≤ b.length) :
    outF z b c H encV (run (C u11 [.ptr c 0, .bool true, .bool false]) H) (rVal b p) := by
  have h := uul (any := true) hH hb hp
  by_cases h1 : p < b.length
  · rw [if_pos h1, ← v002 h1] at h; exact h
  · rw [if_neg h1] at h
    have e : rVal b p = .err b.length 3 := by unfold rVal; rw [if_neg h1]
    rw [e]; exact h
theorem ux9 {H : Heap} {b : List UInt8} {z : Bool} {c p : Nat} (hH : hget H c = some (rst z b p 0 0)) (hb : b.length < 2 ^ 61) (hp : p ≤ b.length) :
    outF z b c H encV (run (C u11 [.ptr c 0, .bool false, .bool false]) H) (rRef b p) := by
  have h := uul (any := false) hH hb hp
  by_cases h1 : p < b.length
  · rw [if_pos h1, ← ut8 h1] at h; exact h
  · rw [if_neg h1] at h
    have e : rRef b p = .err b.length 3 := by unfold rRef; rw [if_neg h1]
    rw [e]; exact h
theorem utw {H : Heap} {b : List UInt8} {z : Bool} {c p : Nat} (hH : hget H c = some (rst z b p 0 0)) (hb : b.length < 2 ^ 61) (hp : p ≤ b.length) :
    outF z b c H encB (run (C u23 [.ptr c 0]) H) (rBlock b p) := by
  have hid := get_lt hH
  have hset := u58 hH
  have hH1 : ∀ L, hget (hadd H L) c = some (rst z b p 0 0) := fun L => by rw [uba hid]; exact hH
  have hH' : hget H c = some (.cells [BS z b, .int .i64 p, .int .i64 0, .int .i64 0]) := hH
  have hs' : Pi.hset H c (.cells [BS z b, .int .i64 p, .int .i64 0, .int .i64 0]) = H := hset
  have so : ∀ u a w L, Pi.hset (hadd H L) c (rst z b u a w) = hadd (Pi.hset H c (rst z b u a w)) L := fun u a w L => by rw [ucz hid]
  have so1 : ∀ u a w u' a' w' L, Pi.hset (hadd (Pi.hset H c (rst z b u' a' w')) L) c (rst z b u a w) = hadd (Pi.hset H c (rst z b u a w)) L := fun u a w u' a' w' L => by rw [ubt hid, set_set]
  rw [u8j]
  unfold rBlock
  -- a number
  have tail : outF z b c H encB (truncR H (run (M.bind (C u0z [.ptr c 0, .int .i64 33, .bool true]) fun t42_30 =>
      M.bind (cv (.int .i64) true t42_30) fun t43_31 =>
      M.bind (nc P (.ptr c 0)) fun t45_32 =>
      M.bind (fa 3 t45_32) fun t46_33 =>
      M.bind (ld none false t46_33) fun t47_34 =>
      M.bind (bi .eql .none t47_34 (.int .i64 0)) fun t48_35 =>
      M.bind (gd (strip t48_35) true (M.pure (strip t43_31))) fun t50_36 =>
      M.bind (gd (strip t48_35) true (bi .lss .none t50_36 (.int .i64 0))) fun t51_37 =>
      M.bind (pick (strip t48_35) t51_37 (.bool false)) fun t52_38 =>
      condM t52_38
      (M.bind (C u06 [.ptr c 0, .int .i64 p, .int .i64 4]) fun t55_39 =>
      u14 (.ptr c 0) (.ptr H.length 0) (.int .i64 p) t43_31)
      (u14 (.ptr c 0) (.ptr H.length 0) (.int .i64 p) t43_31)) (hadd H [.cells [.int .i64 0, .int .i64 0, .bool false, .int .i64 0]])))
      (match rS33 b p with | .ok v q => .ok ⟨v, ⟨0, false, 0⟩⟩ q | .err a w => .err a w) := by
    unfold rS33
    cases hr : rdS b 33 b.length p with
    | ok n q =>
      have hn := rdS_lt hr
      have h1 := fun L => uib (hH1 L) hb hp hr
      simp only [so] at h1
      have hw : IntKind.i64.wrap (IntKind.u64.wrap n) = n := by rw [wi, wu]; omega
      have hH2 : ∀ L, hget (hadd (Pi.hset H c (rst z b q 0 0)) L) c = some (rst z b q 0 0) := fun L => by rw [ubx hid, u7s hid]
      have hH3 : hget (Pi.hset H c (rst z b q 0 0)) c = some (.cells [BS z b, .int .i64 q, .int .i64 0, .int .i64 0]) := u7s hid
      have f : ∀ L w, run (C u06 [.ptr c 0, .int .i64 p, .int .i64 (w : Nat)]) (hadd (Pi.hset H c (rst z b q 0 0)) L) = some (.ok (.tup []) (hadd (Pi.hset H c (rst z b q p w)) L)) := fun L w => by
        have := udj (a := p) (w := w) (hH2 L)
        rwa [so1] at this
      have f4 : ∀ L, run (C u06 [.ptr c 0, .int .i64 p, .int .i64 4]) (hadd (Pi.hset H c (rst z b q 0 0)) L) = some (.ok (.tup []) (hadd (Pi.hset H c (rst z b q p 4)) L)) := fun L => f L 4
      have f2 : ∀ L, run (C u06 [.ptr c 0, .int .i64 p, .int .i64 2]) (hadd (Pi.hset H c (rst z b q 0 0)) L) = some (.ok (.tup []) (hadd (Pi.hset H c (rst z b q p 2)) L)) := fun L => f L 2
      have g4 : hget (Pi.hset H c (rst z b q p 4)) c = some (.cells [BS z b, .int .i64 q, .int .i64 p, .int .i64 4]) := u7s hid
      have g2 : hget (Pi.hset H c (rst z b q p 2)) c = some (.cells [BS z b, .int .i64 q, .int .i64 p, .int .i64 2]) := u7s hid
      dsimp only
      by_cases n1 : n < 0
      · rw [if_pos n1]
        refine ⟨⟨n, ⟨0, false, 0⟩⟩, q, ?_, by omega⟩
        simp +contextual -dsimp (disch := omega) only [↓goDown, goUp, cr, simprocAttr, h1, hw, hH3, n1, f4, g4, u1j, u1f]
        rfl
      · rw [if_neg n1]
        by_cases n2 : 2147483647 < n
        · rw [if_pos n2]
          have n3 : (2147483648 : Int) ≤ n := by omega
          refine ⟨⟨n, ⟨0, false, 0⟩⟩, q, ?_, by omega⟩
          simp +contextual -dsimp (disch := omega) only [↓goDown, goUp, cr, simprocAttr, h1, hw, hH3, n1, n3, f2, g2, u1j, u1f]
          rfl
        · rw [if_neg n2]
          have n3 : ¬ (2147483648 : Int) ≤ n := by omega
          show _ = some _
          simp +contextual -dsimp (disch := omega) only [↓goDown, goUp, cr, simprocAttr, h1, hw, hH3, n1, n3, u1j, u1f]
          rfl
    | err a w =>
      have h1 := fun L => ui8 (hH1 L) hb hp hr
      simp only [so] at h1
      have hw := uab hr
      have c1 : ¬ (w : Int) = 0 := by omega
      have hH5 : hget (Pi.hset H c (rst z b p a w)) c = some (.cells [BS z b, .int .i64 p, .int .i64 a, .int .i64 w]) := u7s hid
      have e0 : IntKind.i64.wrap 0 = 0 := rfl
      refine ⟨⟨0, ⟨0, false, 0⟩⟩, p, ?_, hw⟩
      simp +contextual -dsimp (disch := omega) only [↓goDown, goUp, cr, simprocAttr, h1, hH5, c1, e0, u1j, u1f]
      rfl
  by_cases h1 : p < b.length
  · have hl := fun L => unn (hH1 L) hb h1
    have hc := byt_lt (b.getD p 0)
    rw [if_pos h1]
    generalize (b.getD p 0).toNat = x at hl hc ⊢
    by_cases h2 : x = 64
    · rw [if_pos h2]
      have c1 : ((x : Int) = 64) = True := eq_true (by omega)
      show _ = some _
      simp +contextual -dsimp (disch := omega) only [↓goDown, goUp, cr, simprocAttr, hl, c1, hH']
      rfl
    · rw [if_neg h2]
      have c1 : ((x : Int) = 64) = False := eq_false (by omega)
      by_cases h3 : 64 < x ∧ x < 128
      · rw [if_pos h3]
        have c2 : (64 : Int) < x := by omega
        have c3 : (x : Int) < 128 := by omega
        have hk := uqi (hH1 [.cells [.int .i64 0, .int .i64 0, .bool false, .int .i64 0]]) hb hp
        cases hr : rVal b p with
        | ok v q =>
          rw [hr] at hk
          simp only [outF, so] at hk
          show _ = some _
          simp +contextual -dsimp (disch := omega) only [↓goDown, goUp, cr, simprocAttr, hl, c1, c2, c3, hk, uhs, uki, uhi, ud7, low_V]
          rfl
        | err a w =>
          rw [hr] at hk
          obtain ⟨v, q, hk, hw⟩ := hk
          simp only [so] at hk
          refine ⟨⟨-1, v⟩, q, ?_, hw⟩
          simp +contextual -dsimp (disch := omega) only [↓goDown, goUp, cr, simprocAttr, hl, c1, c2, c3, hk, uhs, uki, uhi, ud7, low_V]
          rfl
      · rw [if_neg h3]
        refine Eq.mp (congrArg (fun r => outF z b c H encB r _) ?_) tail
        symm
        by_cases h4 : (64 : Int) < x
        · have h5 : ¬ (x : Int) < 128 := by omega
          simp +contextual -dsimp (disch := omega) only [↓goDown, goUp, cr, simprocAttr, hl, c1, h4, h5, hH', hs']
        · simp +contextual -dsimp (disch := omega) only [↓goDown, goUp, cr, simprocAttr, hl, c1, h4, hH', hs']
  · have hl := fun L => unu (hH1 L) h1
    have e3 : rS33 b p = .err b.length 3 := by
      have hpe : p = b.length := by omega
      subst hpe
      unfold rS33 rdS lebS
      rw [if_neg (by omega)]
    rw [if_neg h1]
    rw [e3] at tail
    refine Eq.mp (congrArg (fun r => outF z b c H encB r _) ?_) tail
    symm
    simp +contextual -dsimp (disch := omega) only [↓goDown, goUp, cr, simprocAttr, hl, hH', hs']
def rstI (z : Bool) (b : List UInt8) (at_ : Int) : Box := .cells [BS z b, .int .i64 at_, .int .i64 0, .int .i64 0]
theorem ufm {H : Heap} {b : List UInt8} {z : Bool} {at_ : Int} :
    run (C u3g [BS z b, .int .i64 at_]) H = some (.ok (.tup [.ptr H.length 0, .bool (decide (¬ (at_ < 0 ∨ b.length < at_)))]) (hadd H [rstI z b at_])) := by
  rw [ube]
  by_cases h1 : 0 ≤ at_
  · by_cases h2 : at_ ≤ b.length
    · have e : decide (¬ (at_ < 0 ∨ (b.length : Int) < at_)) = true := by simp; omega
      rw [e]
      simp +contextual -dsimp (disch := omega) only [↓goDown, goUp, cr, simprocAttr, h1, h2, List.length_map]
      rfl
    · have e : decide (¬ (at_ < 0 ∨ (b.length : Int) < at_)) = false := by simp; omega
      rw [e]
      simp +contextual -dsimp (disch := omega) only [↓goDown, goUp, cr, simprocAttr, h1, h2, List.length_map]
      rfl
  · have e : decide (¬ (at_ < 0 ∨ (b.length : Int) < at_)) = false := by simp; omega
    rw [e]
    simp +contextual -dsimp (disch := omega) only [↓goDown, goUp, cr, simprocAttr, h1, List.length_map]
    rfl
theorem end_ok {H : Heap} {b : List UInt8} {z : Bool} {c p : Nat} (hH : hget H c = some (rst z b p 0 0)) : run (C u1w [.ptr c 0]) H = some (.ok (.tup [.int .i64 p, .int .i64 0]) H) := by
  have hset := u58 hH
  have hH' : hget H c = some (.cells [BS z b, .int .i64 p, .int .i64 0, .int .i64 0]) := hH
  have hs' : Pi.hset H c (.cells [BS z b, .int .i64 p, .int .i64 0, .int .i64 0]) = H := hset
  rw [u6w]
  simp +contextual -dsimp (disch := omega) only [↓goDown, goUp, cr, simprocAttr, hH', hs']
theorem uoi {H : Heap} {b : List UInt8} {z : Bool} {c p a w : Nat} (hH : hget H c = some (rst z b p a w)) (hw : w ≠ 0) : run (C u1w [.ptr c 0]) H = some (.ok (.tup [.int .i64 a, .int .i64 w]) H) := by
  have hset := u58 hH
  have hH' : hget H c = some (.cells [BS z b, .int .i64 p, .int .i64 a, .int .i64 w]) := hH
  have hs' : Pi.hset H c (.cells [BS z b, .int .i64 p, .int .i64 a, .int .i64 w]) = H := hset
  have c1 : ¬ (w : Int) = 0 := by omega
  rw [u6w]
  simp +contextual -dsimp (disch := omega) only [↓goDown, goUp, cr, simprocAttr, hH', hs', c1]
theorem umi {H : Heap} {b : List UInt8} {z : Bool} (hb : b.length < 2 ^ 61) {at_ : Int} :
    run (C u4p [BS z b, .int .i64 at_]) H = some (.ok (atPl at_ b (.int .i64 0) (outR (fun x : Int => .int .i64 x) (.int .i64 0) (rHeap b at_.toNat))) H) := by
  rw [u9w]
  unfold atPl
  by_cases h1 : at_ < 0 ∨ (b.length : Int) < at_
  · have e : decide (¬ (at_ < 0 ∨ (b.length : Int) < at_)) = false := decide_eq_false (fun h => h h1)
    have hbg := ufm (H := H) (z := z) (b := b) (at_ := at_)
    rw [e] at hbg
    rw [if_pos h1]
    simp +contextual -dsimp (disch := omega) only [↓goDown, goUp, cr, simprocAttr, hbg, un_not]
  · have e : decide (¬ (at_ < 0 ∨ (b.length : Int) < at_)) = true := decide_eq_true h1
    have hbg := ufm (H := H) (z := z) (b := b) (at_ := at_)
    rw [e] at hbg
    rw [if_neg h1]
    obtain ⟨p, rfl⟩ := Int.eq_ofNat_of_zero_le (show 0 ≤ at_ by omega)
    rw [Int.toNat_natCast]
    have hbg : run (C u3g [BS z b, .int .i64 p]) H = some (.ok (.tup [.ptr H.length 0, .bool true]) (hadd H [rst z b p 0 0])) := hbg
    have hk := upy (H := hadd H [rst z b p 0 0]) (c := H.length) (z := z) (b := b) (p := p) (by rw [u86]; rfl) hb (by omega)
    cases hr : rHeap b p with
    | ok v q =>
      rw [hr] at hk
      have hk : run (C u0q [.ptr H.length 0]) (hadd H [rst z b p 0 0]) = some (.ok (.int .i64 v) (hadd H [rst z b q 0 0])) := by
        refine hk.trans ?_
        rw [udv]; rfl
      have he := end_ok (H := hadd H [rst z b q 0 0]) (c := H.length) (z := z) (b := b) (p := q) (by rw [u86]; rfl)
      simp +contextual -dsimp (disch := omega) only [↓goDown, goUp, cr, simprocAttr, hbg, un_not, hk, he, outR]
    | err a w =>
      rw [hr] at hk
      obtain ⟨v, q, hk, hw⟩ := hk
      have hk : run (C u0q [.ptr H.length 0]) (hadd H [rst z b p 0 0]) = some (.ok (.int .i64 v) (hadd H [rst z b q a w])) := by
        refine hk.trans ?_
        rw [udv]; rfl
      have he := uoi (H := hadd H [rst z b q a w]) (c := H.length) (z := z) (b := b) (p := q) (by rw [u86]; rfl) hw
      have c1 : ¬ (w : Int) = 0 := by omega
      simp +contextual -dsimp (disch := omega) only [↓goDown, goUp, cr, simprocAttr, hbg, un_not, hk, he, outR, c1]
end Go.Proofs.YthidcpkcfoldmaaGreat.Pi.Q
namespace Go.Proofs.YthidcpkcfoldmaaGreat.Pi.Q
open Go Go.Proofs.YthidcpkcfoldmaaGreat.Pi
attribute [local congr] ite_congr
theorem ujy {H : Heap} {b : List UInt8} {z : Bool} (hb : b.length < 2 ^ 61) {at_ : Int} :
    run (C u0j [BS z b, .int .i64 at_]) H = some (.ok (atPl at_ b (encB ⟨0, ⟨0, false, 0⟩⟩) (outR encB (encB ⟨0, ⟨0, false, 0⟩⟩) (rBlock b at_.toNat))) H) := by
  rw [u9o]
  unfold atPl
  have hbg := ufm (H := hadd H [.cells [.int .i64 0, .int .i64 0, .bool false, .int .i64 0]]) (z := z) (b := b) (at_ := at_)
  simp only [u7l, uhv, List.length_cons, List.length_nil, List.cons_append, List.nil_append, Nat.zero_add] at hbg
  by_cases h1 : at_ < 0 ∨ (b.length : Int) < at_
  · have e : decide (¬ (at_ < 0 ∨ (b.length : Int) < at_)) = false := decide_eq_false (fun h => h h1)
    rw [e] at hbg
    rw [if_pos h1]
    simp +contextual -dsimp (disch := omega) only [↓goDown, goUp, cr, simprocAttr, hbg, un_not]
    rfl
  · have e : decide (¬ (at_ < 0 ∨ (b.length : Int) < at_)) = true := decide_eq_true h1
    rw [e] at hbg
    rw [if_neg h1]
    obtain ⟨p, rfl⟩ := Int.eq_ofNat_of_zero_le (show 0 ≤ at_ by omega)
    rw [Int.toNat_natCast]
    have hk := utw (H := hadd H [.cells [.int .i64 0, .int .i64 0, .bool false, .int .i64 0], rst z b p 0 0]) (c := H.length + 1) (z := z) (b := b) (p := p) (by rw [u7p]; rfl) hb (by omega)
    have hst : ∀ q a w, Pi.hset (hadd H [.cells [.int .i64 0, .int .i64 0, .bool false, .int .i64 0], rst z b p 0 0]) (H.length + 1) (rst z b q a w) = hadd H [.cells [.int .i64 0, .int .i64 0, .bool false, .int .i64 0], rst z b q a w] := fun q a w => by rw [uad]; rfl
    have hrI : rstI z b (p : Int) = rst z b p 0 0 := rfl
    rw [hrI] at hbg
    cases hr : rBlock b p with
    | ok v q =>
      rw [hr] at hk
      simp only [outF, hst] at hk
      have he := fun x => end_ok (H := hadd H [.cells [.int .i64 0, .int .i64 0, .bool false, .int .i64 0], rst z b q 0 0, x]) (c := H.length + 1) (z := z) (b := b) (p := q) (by rw [u7p]; rfl)
      simp +contextual -dsimp (disch := omega) only [↓goDown, goUp, cr, simprocAttr, hbg, un_not, hk, he, outR, encB]
    | err a w =>
      rw [hr] at hk
      obtain ⟨v, q, hk, hw⟩ := hk
      rw [hst] at hk
      have he := fun x => uoi (H := hadd H [.cells [.int .i64 0, .int .i64 0, .bool false, .int .i64 0], rst z b q a w, x]) (c := H.length + 1) (z := z) (b := b) (p := q) (by rw [u7p]; rfl) hw
      have c1 : ¬ (w : Int) = 0 := by omega
      simp +contextual -dsimp (disch := omega) only [↓goDown, goUp, cr, simprocAttr, hbg, un_not, hk, he, outR, encB, c1]
theorem uv1 {H : Heap} {b : List UInt8} {z any : Bool} (hb : b.length < 2 ^ 61) {at_ : Int} :
    run (C u5k [BS z b, .int .i64 at_, .bool any]) H = some (.ok (atPl at_ b (encV ⟨0, false, 0⟩) (outR encV (encV ⟨0, false, 0⟩) (if any then rVal b at_.toNat else rRef b at_.toNat))) H) := by
  rw [uay]
  unfold atPl
  have hbg := ufm (H := hadd H [.cells [.int .i64 0, .bool false, .int .i64 0]]) (z := z) (b := b) (at_ := at_)
  simp only [u7l, uhv, List.length_cons, List.length_nil, List.cons_append, List.nil_append, Nat.zero_add] at hbg
  by_cases h1 : at_ < 0 ∨ (b.length : Int) < at_
  · have e : decide (¬ (at_ < 0 ∨ (b.length : Int) < at_)) = false := decide_eq_false (fun h => h h1)
    rw [e] at hbg
    rw [if_pos h1]
    simp +contextual -dsimp (disch := omega) only [↓goDown, goUp, cr, simprocAttr, hbg, un_not]
    rfl
  · have e : decide (¬ (at_ < 0 ∨ (b.length : Int) < at_)) = true := decide_eq_true h1
    rw [e] at hbg
    rw [if_neg h1]
    obtain ⟨p, rfl⟩ := Int.eq_ofNat_of_zero_le (show 0 ≤ at_ by omega)
    rw [Int.toNat_natCast]
    have hk : outF z b (H.length + 1) (hadd H [.cells [.int .i64 0, .bool false, .int .i64 0], rst z b p 0 0]) encV (run (C u11 [.ptr (H.length + 1) 0, .bool any, .bool false]) (hadd H [.cells [.int .i64 0, .bool false, .int .i64 0], rst z b p 0 0])) (if any then rVal b p else rRef b p) := by
      cases any
      · exact ux9 (by rw [u7p]; rfl) hb (by omega)
      · exact uqi (by rw [u7p]; rfl) hb (by omega)
    have hst : ∀ q a w, Pi.hset (hadd H [.cells [.int .i64 0, .bool false, .int .i64 0], rst z b p 0 0]) (H.length + 1) (rst z b q a w) = hadd H [.cells [.int .i64 0, .bool false, .int .i64 0], rst z b q a w] := fun q a w => by rw [uad]; rfl
    have hrI : rstI z b (p : Int) = rst z b p 0 0 := rfl
    rw [hrI] at hbg
    cases hr : (if any then rVal b p else rRef b p) with
    | ok v q =>
      rw [hr] at hk
      simp only [outF, hst] at hk
      have he := fun x => end_ok (H := hadd H [.cells [.int .i64 0, .bool false, .int .i64 0], rst z b q 0 0, x]) (c := H.length + 1) (z := z) (b := b) (p := q) (by rw [u7p]; rfl)
      simp +contextual -dsimp (disch := omega) only [↓goDown, goUp, cr, simprocAttr, hbg, un_not, hk, he, outR, encV]
    | err a w =>
      rw [hr] at hk
      obtain ⟨v, q, hk, hw⟩ := hk
      rw [hst] at hk
      have he := fun x => uoi (H := hadd H [.cells [.int .i64 0, .bool false, .int .i64 0], rst z b q a w, x]) (c := H.length + 1) (z := z) (b := b) (p := q) (by rw [u7p]; rfl) hw
      have c1 : ¬ (w : Int) = 0 := by omega
      simp +contextual -dsimp (disch := omega) only [↓goDown, goUp, cr, simprocAttr, hbg, un_not, hk, he, outR, encV, c1]
theorem ubn {at_ : Int} {b : List UInt8} {α : Type} {enc : α → PV} {zero : PV} {r : Rs α} (P : PV → Prop) (h1 : P (.tup [zero, .int .i64 0, .int .i64 1])) (h2 : ∀ v p, r = .ok v p → P (.tup [enc v, .int .i64 (p : Nat), .int .i64 0])) (h3 : ∀ a w, r = .err a w → P (.tup [zero, .int .i64 (a : Nat), .int .i64 (w : Nat)])) : P (atPl at_ b zero (outR enc zero r)) := by
  unfold atPl
  split
  · exact h1
  · cases hr : r with
    | ok v p => exact h2 v p hr
    | err a w => exact h3 a w hr
theorem und {H : Heap} {b : List UInt8} {z : Bool} (hb : b.length < 2 ^ 61) {at_ : Int} :
    run (C u0p [BS z b, .int .i64 at_]) H = some (.ok (atPl at_ b (encV ⟨0, false, 0⟩) (outR encV (encV ⟨0, false, 0⟩) (rVal b at_.toNat))) H) := by
  have h := fun L => uv1 (H := hadd H L) (z := z) (any := true) hb (at_ := at_)
  simp only [if_true] at h
  rw [uac]
  revert h
  refine ubn (fun t => (∀ L, run (C u5k [BS z b, .int .i64 at_, .bool true]) (hadd H L) = some (.ok t (hadd H L))) → _ = some (Out.ok t H)) ?_ ?_ ?_ <;> intros <;> rename_i h <;> unfold encV at h ⊢ <;>
    simp +contextual -dsimp (disch := omega) only [↓goDown, goUp, cr, simprocAttr, h]
theorem ung {H : Heap} {b : List UInt8} {z : Bool} (hb : b.length < 2 ^ 61) {at_ : Int} :
    run (C u43 [BS z b, .int .i64 at_]) H = some (.ok (atPl at_ b (encV ⟨0, false, 0⟩) (outR encV (encV ⟨0, false, 0⟩) (rVal b at_.toNat))) H) := by
  have h := fun L => uty (z := z) hb (one := .fn u3b [] []) (r := rVal b) (fun H c p hH hp => val_is hH hb hp) (H := hadd H L) (at_ := at_)
  rw [ufd]
  revert h
  refine ubn (fun t => (∀ L, run (C u4c [BS z b, .int .i64 at_, .fn u3b [] []]) (hadd H L) = some (.ok t (hadd H L))) → _ = some (Out.ok t H)) ?_ ?_ ?_ <;> intros <;> rename_i h <;> unfold encV at h ⊢ <;>
    simp +contextual -dsimp (disch := omega) only [↓goDown, goUp, cr, simprocAttr, h]
theorem ujs {H : Heap} {b : List UInt8} {z : Bool} (hb : b.length < 2 ^ 61) {at_ : Int} :
    run (C u5x [BS z b, .int .i64 at_]) H = some (.ok (atPl at_ b (encB ⟨0, ⟨0, false, 0⟩⟩) (outR encB (encB ⟨0, ⟨0, false, 0⟩⟩) (rBlock b at_.toNat))) H) := by
  have h := fun L => utb (z := z) hb (one := .fn u4i [] []) (r := rBlock b) (fun H c p hH hp => uxz hH hb hp) (H := hadd H L) (at_ := at_)
  rw [udn]
  revert h
  refine ubn (fun t => (∀ L, run (C u4x [BS z b, .int .i64 at_, .fn u4i [] []]) (hadd H L) = some (.ok t (hadd H L))) → _ = some (Out.ok t H)) ?_ ?_ ?_ <;> intros <;> rename_i h <;> unfold encB at h ⊢ <;>
    simp +contextual -dsimp (disch := omega) only [↓goDown, goUp, cr, simprocAttr, h]
theorem uml {H : Heap} {b : List UInt8} {z : Bool} (hb : b.length < 2 ^ 61) {at_ : Int} :
    run (C u67 [BS z b, .int .i64 at_]) H = some (.ok (atPl at_ b (.int .i64 0) (outR (fun x : Int => .int .i64 x) (.int .i64 0) (rHeap b at_.toNat))) H) := by
  have h := uol (z := z) hb (one := .fn u3t [] []) (r := rHeap b) (fun H c p hH hp => uut hH hb hp) (H := H) (at_ := at_)
  rw [ue7]
  revert h
  refine ubn (fun t => (run (C u7h [BS z b, .int .i64 at_, .fn u3t [] []]) H = some (.ok t H)) → _ = some (Out.ok t H)) ?_ ?_ ?_ <;> intros <;> rename_i h <;>
    simp +contextual -dsimp (disch := omega) only [↓goDown, goUp, cr, simprocAttr, h]
end Go.Proofs.YthidcpkcfoldmaaGreat.Pi.Q
namespace Go.Proofs.YthidcpkcfoldmaaGreat.Pi.Q
open Go Go.Proofs.YthidcpkcfoldmaaGreat.Pi
attribute [local congr] ite_congr
theorem u4o {H : Heap} {k : IntKind} {n : Int} : run (bi .neq .none (.int k n) (.int k n)) H = some (.ok (.bool false) H) := by
  unfold run
  rw [bi_neq, bne_self_eq_false]
  rfl
end Go.Proofs.YthidcpkcfoldmaaGreat.Pi.Q
namespace Go.Proofs.YthidcpkcfoldmaaGreat.Pi.Q
open Go Go.Proofs.YthidcpkcfoldmaaGreat.Pi
attribute [local congr] ite_congr
structure FT where
  ty : VT
  mu : Bool
  deriving DecidableEq
end Go.Proofs.YthidcpkcfoldmaaGreat.Pi.Q
namespace Go.Proofs.YthidcpkcfoldmaaGreat.Pi.Q
open Go Go.Proofs.YthidcpkcfoldmaaGreat.Pi
attribute [local congr] ite_congr
def shutP (sz : Nat) (l : List PV) : PV := match l with | [] => .slice false true 0 [] | l => .slice false false sz l
theorem uz0 {sz : Nat} {l : List PV} : isTup (shutP sz l) = false := by cases l <;> rfl
theorem u3z {sz : Nat} {l : List PV} : isCell (shutP sz l) = true := by cases l <;> rfl
theorem u5f {sz : Nat} {l : List PV} : (shutP sz l).cells = [shutP sz l] := by cases l <;> rfl
theorem low_P {sz : Nat} {l : List PV} {n : Nat} : (shutP sz l).low n = true := by cases l <;> simp [shutP, u7q]
theorem u36 {sz : Nat} {l : List PV} : strip (shutP sz l) = shutP sz l := by cases l <;> rfl
theorem u3w {sz : Nat} {l : List PV} : stripC (shutP sz l) = shutP sz l := by cases l <;> rfl
structure CT where
  kind : Int
  ps : List VT
  rs : List VT
  fs : List FT
  deriving DecidableEq
structure ST where
  fin : Bool
  sup : List Int
  comp : CT
  deriving DecidableEq
end Go.Proofs.YthidcpkcfoldmaaGreat.Pi.Q
namespace Go.Proofs.YthidcpkcfoldmaaGreat.Pi.Q
open Go Go.Proofs.YthidcpkcfoldmaaGreat.Pi
attribute [local congr] ite_congr
structure RT where
  types : List ST
  exp : Bool
  deriving DecidableEq
end Go.Proofs.YthidcpkcfoldmaaGreat.Pi.Q
namespace Go.Proofs.YthidcpkcfoldmaaGreat.Pi.Q
open Go Go.Proofs.YthidcpkcfoldmaaGreat.Pi
attribute [local congr] ite_congr
theorem u4m {H : Heap} {k : IntKind} {n : Int} : run (bi .eql .none (.int k n) (.int k n)) H = some (.ok (.bool true) H) := by
  unfold run
  rw [bi_eql, beq_self_eq_true]
  rfl
theorem uke {H : Heap} {t : Bool} : run (bi .eql .bool (.bool t) (.bool t)) H = some (.ok (.bool true) H) := by cases t <;> rfl
theorem u4l {H : Heap} {t : Bool} : run (bi .neq .bool (.bool t) (.bool t)) H = some (.ok (.bool false) H) := by cases t <;> rfl
theorem um8 {H : Heap} {v : VT} : run (C u3u [encV v, encV v]) H = some (.ok (.bool true) H) := by
  rw [ucd]
  by_cases h : v.num = 5
  · have e : (v.num = 5) = True := eq_true h
    simp +contextual -dsimp (disch := omega) only [↓goDown, goUp, cr, simprocAttr, ud7, u4m, uke, e]
  · have e : (v.num = 5) = False := eq_false h
    simp +contextual -dsimp (disch := omega) only [↓goDown, goUp, cr, simprocAttr, ud7, u4m, uke, e]
theorem ln_P {H : Heap} {sz : Nat} {l : List PV} : run (lnL (shutP sz l)) H = some (.ok (.int .i64 l.length) H) := by cases l <;> rfl
theorem ia_P {H : Heap} {sz : Nat} {l : List PV} {i : Nat} {x : PV} (h : l[i]? = some x) : run (iaS sz (shutP sz l) (.int .i64 i)) H = run (iaS sz (.slice false false sz l) (.int .i64 i)) H := by
  cases l with
  | nil => simp at h
  | cons a r => rfl
theorem udk {H : Heap} {v4 : PV} {l : List VT} (hl : l.length < 2 ^ 62) : ∀ (m i : Nat), i + m = l.length → run (u20 (shutP 3 (l.map encV)) (shutP 3 (l.map encV)) v4 (.int .i64 i)) H = some (.ok (.bool true) H)
  | 0, i, h => by
    rw [u5h]
    have c1 : ¬ (i : Int) < l.length := by omega
    simp +contextual -dsimp (disch := omega) only [↓goDown, goUp, cr, simprocAttr, u36, ln_P, List.length_map, c1]
  | m + 1, i, h => by
    have ih := udk hl (v4 := v4) (H := H) m (i + 1) (by omega)
    rw [u5h]
    have c1 : (i : Int) < l.length := by omega
    have hi : i < l.length := by omega
    have hg : (l.map encV)[i]? = some (encV l[i]) := by simp [hi]
    have hia : run (iaS 3 (shutP 3 (l.map encV)) (.int .i64 i)) H = some (.ok (.elem [.int .i64 l[i].num, .bool l[i].nul, .int .i64 l[i].heap]) H) := by
      rw [ia_P hg, u9r (by omega), Int.toNat_natCast, hg]
      rfl
    have hsame : run (C u3u [.agg [.int .i64 l[i].num, .bool l[i].nul, .int .i64 l[i].heap], .agg [.int .i64 l[i].num, .bool l[i].nul, .int .i64 l[i].heap]]) H = some (.ok (.bool true) H) := um8
    simp +contextual -dsimp (disch := omega) only [↓goDown, goUp, cr, simprocAttr, u36, ln_P, List.length_map, c1, hia, hsame, un_not, ns]
    exact ih
theorem u8u {H : Heap} {l : List VT} (hl : l.length < 2 ^ 62) : run (C u3a [shutP 3 (l.map encV), shutP 3 (l.map encV)]) H = some (.ok (.bool true) H) := by
  rw [u9x]
  have lp : ∀ (v4 : PV) , run (u20 (shutP 3 (l.map encV)) (shutP 3 (l.map encV)) v4 (.int .i64 0)) H = some (.ok (.bool true) H) := fun v4 => udk hl l.length 0 (by omega)
  simp +contextual -dsimp (disch := omega) only [↓goDown, goUp, cr, simprocAttr, u36, ln_P, u4o, lp]
def CT.fit (v : CT) : Prop := v.ps.length < 2 ^ 62 ∧ v.rs.length < 2 ^ 62 ∧ v.fs.length < 2 ^ 62
def ST.fit (v : ST) : Prop := v.sup.length < 2 ^ 62 ∧ v.comp.fit
def RT.fit (v : RT) : Prop := v.types.length < 2 ^ 62 ∧ ∀ t ∈ v.types, t.fit
end Go.Proofs.YthidcpkcfoldmaaGreat.Pi.Q
namespace Go.Proofs.YthidcpkcfoldmaaGreat.Pi
structure GL (α : Type) where
  z : Bool
  l : List α
  deriving DecidableEq
section
variable {z : Bool} {sz : Nat} {l : List PV} {H : Heap}
end
end Go.Proofs.YthidcpkcfoldmaaGreat.Pi
namespace Go.Proofs.YthidcpkcfoldmaaGreat.Pi.Q
open Go Go.Proofs.YthidcpkcfoldmaaGreat.Pi
structure PRow where
  first : Int
  many : Int
  head : ByteArray
  names : ByteArray
  form : Int
def PRow.enc (r : PRow) : PV := .agg [.int .i64 r.first, .int .i64 r.many, .str r.head, .str r.names, .int .i64 r.form]
structure RRow where
  first : Int
  head : ByteArray
  names : ByteArray
  form : ByteArray
def RRow.enc (r : RRow) : PV := .agg [.int .i64 r.first, .str r.head, .str r.names, .str r.form]
def numP : List PRow := [
  ⟨0, 2, ⟨#[]⟩, ⟨#[117, 110, 114, 101, 97, 99, 104, 97, 98, 108, 101, 32, 110, 111, 112]⟩, 1⟩,
  ⟨2, 3, ⟨#[]⟩, ⟨#[98, 108, 111, 99, 107, 32, 108, 111, 111, 112, 32, 105, 102]⟩, 2⟩,
  ⟨5, 1, ⟨#[]⟩, ⟨#[101, 108, 115, 101]⟩, 1⟩,
  ⟨8, 1, ⟨#[]⟩, ⟨#[116, 104, 114, 111, 119]⟩, 4⟩,
  ⟨10, 2, ⟨#[]⟩, ⟨#[116, 104, 114, 111, 119, 95, 114, 101, 102, 32, 101, 110, 100]⟩, 1⟩,
  ⟨12, 2, ⟨#[]⟩, ⟨#[98, 114, 32, 98, 114, 95, 105, 102]⟩, 4⟩,
  ⟨14, 1, ⟨#[]⟩, ⟨#[98, 114, 95, 116, 97, 98, 108, 101]⟩, 6⟩,
  ⟨15, 1, ⟨#[]⟩, ⟨#[114, 101, 116, 117, 114, 110]⟩, 1⟩,
  ⟨16, 1, ⟨#[]⟩, ⟨#[99, 97, 108, 108]⟩, 4⟩,
  ⟨17, 1, ⟨#[]⟩, ⟨#[99, 97, 108, 108, 95, 105, 110, 100, 105, 114, 101, 99, 116]⟩, 5⟩,
  ⟨18, 1, ⟨#[]⟩, ⟨#[114, 101, 116, 117, 114, 110, 95, 99, 97, 108, 108]⟩, 4⟩,
  ⟨19, 1, ⟨#[]⟩, ⟨#[114, 101, 116, 117, 114, 110, 95, 99, 97, 108, 108, 95, 105, 110, 100, 105, 114, 101, 99, 116]⟩, 5⟩,
  ⟨20, 2, ⟨#[]⟩, ⟨#[99, 97, 108, 108, 95, 114, 101, 102, 32, 114, 101, 116, 117, 114, 110, 95, 99, 97, 108, 108, 95, 114, 101, 102]⟩, 4⟩,
  ⟨26, 2, ⟨#[]⟩, ⟨#[100, 114, 111, 112, 32, 115, 101, 108, 101, 99, 116]⟩, 1⟩,
  ⟨28, 1, ⟨#[]⟩, ⟨#[115, 101, 108, 101, 99, 116, 95, 116]⟩, 7⟩,
  ⟨31, 1, ⟨#[]⟩, ⟨#[116, 114, 121, 95, 116, 97, 98, 108, 101]⟩, 3⟩,
  ⟨32, 7, ⟨#[]⟩, ⟨#[108, 111, 99, 97, 108, 46, 103, 101, 116, 32, 108, 111, 99, 97, 108, 46, 115, 101, 116, 32, 108, 111, 99, 97, 108, 46, 116, 101, 101, 32, 103, 108, 111, 98, 97, 108, 46, 103, 101, 116, 32, 103, 108, 111, 98, 97, 108, 46, 115, 101, 116, 32, 116, 97, 98, 108, 101, 46, 103, 101, 116, 32, 116, 97, 98, 108, 101, 46, 115, 101, 116]⟩, 4⟩,
  ⟨40, 23, ⟨#[]⟩, ⟨#[105, 51, 50, 46, 108, 111, 97, 100, 32, 105, 54, 52, 46, 108, 111, 97, 100, 32, 102, 51, 50, 46, 108, 111, 97, 100, 32, 102, 54, 52, 46, 108, 111, 97, 100, 32, 105, 51, 50, 46, 108, 111, 97, 100, 56, 95, 115, 32, 105, 51, 50, 46, 108, 111, 97, 100, 56, 95, 117, 32, 105, 51, 50, 46, 108, 111, 97, 100, 49, 54, 95, 115, 32, 105, 51, 50, 46, 108, 111, 97, 100, 49, 54, 95, 117, 32, 105, 54, 52, 46, 108, 111, 97, 100, 56, 95, 115, 32, 105, 54, 52, 46, 108, 111, 97, 100, 56, 95, 117, 32, 105, 54, 52, 46, 108, 111, 97, 100, 49, 54, 95, 115, 32, 105, 54, 52, 46, 108, 111, 97, 100, 49, 54, 95, 117, 32, 105, 54, 52, 46, 108, 111, 97, 100, 51, 50, 95, 115, 32, 105, 54, 52, 46, 108, 111, 97, 100, 51, 50, 95, 117, 32, 105, 51, 50, 46, 115, 116, 111, 114, 101, 32, 105, 54, 52, 46, 115, 116, 111, 114, 101, 32, 102, 51, 50, 46, 115, 116, 111, 114, 101, 32, 102, 54, 52, 46, 115, 116, 111, 114, 101, 32, 105, 51, 50, 46, 115, 116, 111, 114, 101, 56, 32, 105, 51, 50, 46, 115, 116, 111, 114, 101, 49, 54, 32, 105, 54, 52, 46, 115, 116, 111, 114, 101, 56, 32, 105, 54, 52, 46, 115, 116, 111, 114, 101, 49, 54, 32, 105, 54, 52, 46, 115, 116, 111, 114, 101, 51, 50]⟩, 8⟩,
  ⟨63, 2, ⟨#[]⟩, ⟨#[109, 101, 109, 111, 114, 121, 46, 115, 105, 122, 101, 32, 109, 101, 109, 111, 114, 121, 46, 103, 114, 111, 119]⟩, 4⟩,
  ⟨65, 1, ⟨#[]⟩, ⟨#[105, 51, 50, 46, 99, 111, 110, 115, 116]⟩, 9⟩,
  ⟨66, 1, ⟨#[]⟩, ⟨#[105, 54, 52, 46, 99, 111, 110, 115, 116]⟩, 10⟩,
  ⟨67, 1, ⟨#[]⟩, ⟨#[102, 51, 50, 46, 99, 111, 110, 115, 116]⟩, 11⟩,
  ⟨68, 1, ⟨#[]⟩, ⟨#[102, 54, 52, 46, 99, 111, 110, 115, 116]⟩, 12⟩,
  ⟨69, 11, ⟨#[105, 51, 50, 46]⟩, ⟨#[101, 113, 122, 32, 101, 113, 32, 110, 101, 32, 108, 116, 95, 115, 32, 108, 116, 95, 117, 32, 103, 116, 95, 115, 32, 103, 116, 95, 117, 32, 108, 101, 95, 115, 32, 108, 101, 95, 117, 32, 103, 101, 95, 115, 32, 103, 101, 95, 117]⟩, 1⟩,
  ⟨80, 11, ⟨#[105, 54, 52, 46]⟩, ⟨#[101, 113, 122, 32, 101, 113, 32, 110, 101, 32, 108, 116, 95, 115, 32, 108, 116, 95, 117, 32, 103, 116, 95, 115, 32, 103, 116, 95, 117, 32, 108, 101, 95, 115, 32, 108, 101, 95, 117, 32, 103, 101, 95, 115, 32, 103, 101, 95, 117]⟩, 1⟩,
  ⟨91, 6, ⟨#[102, 51, 50, 46]⟩, ⟨#[101, 113, 32, 110, 101, 32, 108, 116, 32, 103, 116, 32, 108, 101, 32, 103, 101]⟩, 1⟩,
  ⟨97, 6, ⟨#[102, 54, 52, 46]⟩, ⟨#[101, 113, 32, 110, 101, 32, 108, 116, 32, 103, 116, 32, 108, 101, 32, 103, 101]⟩, 1⟩,
  ⟨103, 18, ⟨#[105, 51, 50, 46]⟩, ⟨#[99, 108, 122, 32, 99, 116, 122, 32, 112, 111, 112, 99, 110, 116, 32, 97, 100, 100, 32, 115, 117, 98, 32, 109, 117, 108, 32, 100, 105, 118, 95, 115, 32, 100, 105, 118, 95, 117, 32, 114, 101, 109, 95, 115, 32, 114, 101, 109, 95, 117, 32, 97, 110, 100, 32, 111, 114, 32, 120, 111, 114, 32, 115, 104, 108, 32, 115, 104, 114, 95, 115, 32, 115, 104, 114, 95, 117, 32, 114, 111, 116, 108, 32, 114, 111, 116, 114]⟩, 1⟩,
  ⟨121, 18, ⟨#[105, 54, 52, 46]⟩, ⟨#[99, 108, 122, 32, 99, 116, 122, 32, 112, 111, 112, 99, 110, 116, 32, 97, 100, 100, 32, 115, 117, 98, 32, 109, 117, 108, 32, 100, 105, 118, 95, 115, 32, 100, 105, 118, 95, 117, 32, 114, 101, 109, 95, 115, 32, 114, 101, 109, 95, 117, 32, 97, 110, 100, 32, 111, 114, 32, 120, 111, 114, 32, 115, 104, 108, 32, 115, 104, 114, 95, 115, 32, 115, 104, 114, 95, 117, 32, 114, 111, 116, 108, 32, 114, 111, 116, 114]⟩, 1⟩,
  ⟨139, 14, ⟨#[102, 51, 50, 46]⟩, ⟨#[97, 98, 115, 32, 110, 101, 103, 32, 99, 101, 105, 108, 32, 102, 108, 111, 111, 114, 32, 116, 114, 117, 110, 99, 32, 110, 101, 97, 114, 101, 115, 116, 32, 115, 113, 114, 116, 32, 97, 100, 100, 32, 115, 117, 98, 32, 109, 117, 108, 32, 100, 105, 118, 32, 109, 105, 110, 32, 109, 97, 120, 32, 99, 111, 112, 121, 115, 105, 103, 110]⟩, 1⟩,
  ⟨153, 14, ⟨#[102, 54, 52, 46]⟩, ⟨#[97, 98, 115, 32, 110, 101, 103, 32, 99, 101, 105, 108, 32, 102, 108, 111, 111, 114, 32, 116, 114, 117, 110, 99, 32, 110, 101, 97, 114, 101, 115, 116, 32, 115, 113, 114, 116, 32, 97, 100, 100, 32, 115, 117, 98, 32, 109, 117, 108, 32, 100, 105, 118, 32, 109, 105, 110, 32, 109, 97, 120, 32, 99, 111, 112, 121, 115, 105, 103, 110]⟩, 1⟩,
  ⟨167, 5, ⟨#[105, 51, 50, 46]⟩, ⟨#[119, 114, 97, 112, 95, 105, 54, 52, 32, 116, 114, 117, 110, 99, 95, 102, 51, 50, 95, 115, 32, 116, 114, 117, 110, 99, 95, 102, 51, 50, 95, 117, 32, 116, 114, 117, 110, 99, 95, 102, 54, 52, 95, 115, 32, 116, 114, 117, 110, 99, 95, 102, 54, 52, 95, 117]⟩, 1⟩,
  ⟨172, 6, ⟨#[105, 54, 52, 46]⟩, ⟨#[101, 120, 116, 101, 110, 100, 95, 105, 51, 50, 95, 115, 32, 101, 120, 116, 101, 110, 100, 95, 105, 51, 50, 95, 117, 32, 116, 114, 117, 110, 99, 95, 102, 51, 50, 95, 115, 32, 116, 114, 117, 110, 99, 95, 102, 51, 50, 95, 117, 32, 116, 114, 117, 110, 99, 95, 102, 54, 52, 95, 115, 32, 116, 114, 117, 110, 99, 95, 102, 54, 52, 95, 117]⟩, 1⟩,
  ⟨178, 5, ⟨#[102, 51, 50, 46]⟩, ⟨#[99, 111, 110, 118, 101, 114, 116, 95, 105, 51, 50, 95, 115, 32, 99, 111, 110, 118, 101, 114, 116, 95, 105, 51, 50, 95, 117, 32, 99, 111, 110, 118, 101, 114, 116, 95, 105, 54, 52, 95, 115, 32, 99, 111, 110, 118, 101, 114, 116, 95, 105, 54, 52, 95, 117, 32, 100, 101, 109, 111, 116, 101, 95, 102, 54, 52]⟩, 1⟩,
  ⟨183, 5, ⟨#[102, 54, 52, 46]⟩, ⟨#[99, 111, 110, 118, 101, 114, 116, 95, 105, 51, 50, 95, 115, 32, 99, 111, 110, 118, 101, 114, 116, 95, 105, 51, 50, 95, 117, 32, 99, 111, 110, 118, 101, 114, 116, 95, 105, 54, 52, 95, 115, 32, 99, 111, 110, 118, 101, 114, 116, 95, 105, 54, 52, 95, 117, 32, 112, 114, 111, 109, 111, 116, 101, 95, 102, 51, 50]⟩, 1⟩,
  ⟨188, 4, ⟨#[]⟩, ⟨#[105, 51, 50, 46, 114, 101, 105, 110, 116, 101, 114, 112, 114, 101, 116, 95, 102, 51, 50, 32, 105, 54, 52, 46, 114, 101, 105, 110, 116, 101, 114, 112, 114, 101, 116, 95, 102, 54, 52, 32, 102, 51, 50, 46, 114, 101, 105, 110, 116, 101, 114, 112, 114, 101, 116, 95, 105, 51, 50, 32, 102, 54, 52, 46, 114, 101, 105, 110, 116, 101, 114, 112, 114, 101, 116, 95, 105, 54, 52]⟩, 1⟩,
  ⟨192, 5, ⟨#[]⟩, ⟨#[105, 51, 50, 46, 101, 120, 116, 101, 110, 100, 56, 95, 115, 32, 105, 51, 50, 46, 101, 120, 116, 101, 110, 100, 49, 54, 95, 115, 32, 105, 54, 52, 46, 101, 120, 116, 101, 110, 100, 56, 95, 115, 32, 105, 54, 52, 46, 101, 120, 116, 101, 110, 100, 49, 54, 95, 115, 32, 105, 54, 52, 46, 101, 120, 116, 101, 110, 100, 51, 50, 95, 115]⟩, 1⟩]
theorem uz4 {H : Heap} : run (C u97 []) H = some (.ok (.slice true false 5 (numP.map PRow.enc)) H) := by
  rw [ufc]
  exact ubz (by kernel_rfl)
def othP : List PRow := [
  ⟨208, 1, ⟨#[]⟩, ⟨#[114, 101, 102, 46, 110, 117, 108, 108]⟩, 13⟩,
  ⟨209, 1, ⟨#[]⟩, ⟨#[114, 101, 102, 46, 105, 115, 95, 110, 117, 108, 108]⟩, 1⟩,
  ⟨210, 1, ⟨#[]⟩, ⟨#[114, 101, 102, 46, 102, 117, 110, 99]⟩, 4⟩,
  ⟨211, 2, ⟨#[]⟩, ⟨#[114, 101, 102, 46, 101, 113, 32, 114, 101, 102, 46, 97, 115, 95, 110, 111, 110, 95, 110, 117, 108, 108]⟩, 1⟩,
  ⟨213, 2, ⟨#[]⟩, ⟨#[98, 114, 95, 111, 110, 95, 110, 117, 108, 108, 32, 98, 114, 95, 111, 110, 95, 110, 111, 110, 95, 110, 117, 108, 108]⟩, 4⟩,
  ⟨64256, 2, ⟨#[]⟩, ⟨#[115, 116, 114, 117, 99, 116, 46, 110, 101, 119, 32, 115, 116, 114, 117, 99, 116, 46, 110, 101, 119, 95, 100, 101, 102, 97, 117, 108, 116]⟩, 4⟩,
  ⟨64258, 4, ⟨#[]⟩, ⟨#[115, 116, 114, 117, 99, 116, 46, 103, 101, 116, 32, 115, 116, 114, 117, 99, 116, 46, 103, 101, 116, 95, 115, 32, 115, 116, 114, 117, 99, 116, 46, 103, 101, 116, 95, 117, 32, 115, 116, 114, 117, 99, 116, 46, 115, 101, 116]⟩, 5⟩,
  ⟨64262, 2, ⟨#[]⟩, ⟨#[97, 114, 114, 97, 121, 46, 110, 101, 119, 32, 97, 114, 114, 97, 121, 46, 110, 101, 119, 95, 100, 101, 102, 97, 117, 108, 116]⟩, 4⟩,
  ⟨64264, 1, ⟨#[]⟩, ⟨#[97, 114, 114, 97, 121, 46, 110, 101, 119, 95, 102, 105, 120, 101, 100]⟩, 16⟩,
  ⟨64265, 2, ⟨#[]⟩, ⟨#[97, 114, 114, 97, 121, 46, 110, 101, 119, 95, 100, 97, 116, 97, 32, 97, 114, 114, 97, 121, 46, 110, 101, 119, 95, 101, 108, 101, 109]⟩, 5⟩,
  ⟨64267, 4, ⟨#[]⟩, ⟨#[97, 114, 114, 97, 121, 46, 103, 101, 116, 32, 97, 114, 114, 97, 121, 46, 103, 101, 116, 95, 115, 32, 97, 114, 114, 97, 121, 46, 103, 101, 116, 95, 117, 32, 97, 114, 114, 97, 121, 46, 115, 101, 116]⟩, 4⟩,
  ⟨64271, 1, ⟨#[]⟩, ⟨#[97, 114, 114, 97, 121, 46, 108, 101, 110]⟩, 1⟩,
  ⟨64272, 1, ⟨#[]⟩, ⟨#[97, 114, 114, 97, 121, 46, 102, 105, 108, 108]⟩, 4⟩,
  ⟨64273, 3, ⟨#[]⟩, ⟨#[97, 114, 114, 97, 121, 46, 99, 111, 112, 121, 32, 97, 114, 114, 97, 121, 46, 105, 110, 105, 116, 95, 100, 97, 116, 97, 32, 97, 114, 114, 97, 121, 46, 105, 110, 105, 116, 95, 101, 108, 101, 109]⟩, 5⟩,
  ⟨64276, 4, ⟨#[]⟩, ⟨#[114, 101, 102, 46, 116, 101, 115, 116, 32, 114, 101, 102, 46, 116, 101, 115, 116, 95, 110, 117, 108, 108, 32, 114, 101, 102, 46, 99, 97, 115, 116, 32, 114, 101, 102, 46, 99, 97, 115, 116, 95, 110, 117, 108, 108]⟩, 14⟩,
  ⟨64280, 2, ⟨#[]⟩, ⟨#[98, 114, 95, 111, 110, 95, 99, 97, 115, 116, 32, 98, 114, 95, 111, 110, 95, 99, 97, 115, 116, 95, 102, 97, 105, 108]⟩, 15⟩,
  ⟨64282, 5, ⟨#[]⟩, ⟨#[97, 110, 121, 46, 99, 111, 110, 118, 101, 114, 116, 95, 101, 120, 116, 101, 114, 110, 32, 101, 120, 116, 101, 114, 110, 46, 99, 111, 110, 118, 101, 114, 116, 95, 97, 110, 121, 32, 114, 101, 102, 46, 105, 51, 49, 32, 105, 51, 49, 46, 103, 101, 116, 95, 115, 32, 105, 51, 49, 46, 103, 101, 116, 95, 117]⟩, 1⟩,
  ⟨64512, 8, ⟨#[]⟩, ⟨#[105, 51, 50, 46, 116, 114, 117, 110, 99, 95, 115, 97, 116, 95, 102, 51, 50, 95, 115, 32, 105, 51, 50, 46, 116, 114, 117, 110, 99, 95, 115, 97, 116, 95, 102, 51, 50, 95, 117, 32, 105, 51, 50, 46, 116, 114, 117, 110, 99, 95, 115, 97, 116, 95, 102, 54, 52, 95, 115, 32, 105, 51, 50, 46, 116, 114, 117, 110, 99, 95, 115, 97, 116, 95, 102, 54, 52, 95, 117, 32, 105, 54, 52, 46, 116, 114, 117, 110, 99, 95, 115, 97, 116, 95, 102, 51, 50, 95, 115, 32, 105, 54, 52, 46, 116, 114, 117, 110, 99, 95, 115, 97, 116, 95, 102, 51, 50, 95, 117, 32, 105, 54, 52, 46, 116, 114, 117, 110, 99, 95, 115, 97, 116, 95, 102, 54, 52, 95, 115, 32, 105, 54, 52, 46, 116, 114, 117, 110, 99, 95, 115, 97, 116, 95, 102, 54, 52, 95, 117]⟩, 1⟩,
  ⟨64520, 1, ⟨#[]⟩, ⟨#[109, 101, 109, 111, 114, 121, 46, 105, 110, 105, 116]⟩, 5⟩,
  ⟨64521, 1, ⟨#[]⟩, ⟨#[100, 97, 116, 97, 46, 100, 114, 111, 112]⟩, 4⟩,
  ⟨64522, 1, ⟨#[]⟩, ⟨#[109, 101, 109, 111, 114, 121, 46, 99, 111, 112, 121]⟩, 5⟩,
  ⟨64523, 1, ⟨#[]⟩, ⟨#[109, 101, 109, 111, 114, 121, 46, 102, 105, 108, 108]⟩, 4⟩,
  ⟨64524, 1, ⟨#[]⟩, ⟨#[116, 97, 98, 108, 101, 46, 105, 110, 105, 116]⟩, 5⟩,
  ⟨64525, 1, ⟨#[]⟩, ⟨#[101, 108, 101, 109, 46, 100, 114, 111, 112]⟩, 4⟩,
  ⟨64526, 1, ⟨#[]⟩, ⟨#[116, 97, 98, 108, 101, 46, 99, 111, 112, 121]⟩, 5⟩,
  ⟨64527, 3, ⟨#[]⟩, ⟨#[116, 97, 98, 108, 101, 46, 103, 114, 111, 119, 32, 116, 97, 98, 108, 101, 46, 115, 105, 122, 101, 32, 116, 97, 98, 108, 101, 46, 102, 105, 108, 108]⟩, 4⟩]
theorem uzd {H : Heap} : run (C u9p []) H = some (.ok (.slice true false 5 (othP.map PRow.enc)) H) := by
  rw [ui6]
  exact ubz (by kernel_rfl)
def tabR : List RRow := [
  ⟨0, ⟨#[]⟩, ⟨#[117, 110, 114, 101, 97, 99, 104, 97, 98, 108, 101, 32, 110, 111, 112]⟩, ⟨#[45]⟩⟩,
  ⟨2, ⟨#[]⟩, ⟨#[98, 108, 111, 99, 107, 32, 108, 111, 111, 112, 32, 105, 102]⟩, ⟨#[98, 108, 111, 99, 107]⟩⟩,
  ⟨5, ⟨#[]⟩, ⟨#[101, 108, 115, 101]⟩, ⟨#[45]⟩⟩,
  ⟨8, ⟨#[]⟩, ⟨#[116, 104, 114, 111, 119]⟩, ⟨#[120]⟩⟩,
  ⟨10, ⟨#[]⟩, ⟨#[116, 104, 114, 111, 119, 95, 114, 101, 102, 32, 101, 110, 100]⟩, ⟨#[45]⟩⟩,
  ⟨12, ⟨#[]⟩, ⟨#[98, 114, 32, 98, 114, 95, 105, 102]⟩, ⟨#[120]⟩⟩,
  ⟨14, ⟨#[]⟩, ⟨#[98, 114, 95, 116, 97, 98, 108, 101]⟩, ⟨#[116, 97, 98, 108, 101]⟩⟩,
  ⟨15, ⟨#[]⟩, ⟨#[114, 101, 116, 117, 114, 110]⟩, ⟨#[45]⟩⟩,
  ⟨16, ⟨#[]⟩, ⟨#[99, 97, 108, 108]⟩, ⟨#[120]⟩⟩,
  ⟨17, ⟨#[]⟩, ⟨#[99, 97, 108, 108, 95, 105, 110, 100, 105, 114, 101, 99, 116]⟩, ⟨#[120, 121]⟩⟩,
  ⟨18, ⟨#[]⟩, ⟨#[114, 101, 116, 117, 114, 110, 95, 99, 97, 108, 108]⟩, ⟨#[120]⟩⟩,
  ⟨19, ⟨#[]⟩, ⟨#[114, 101, 116, 117, 114, 110, 95, 99, 97, 108, 108, 95, 105, 110, 100, 105, 114, 101, 99, 116]⟩, ⟨#[120, 121]⟩⟩,
  ⟨20, ⟨#[]⟩, ⟨#[99, 97, 108, 108, 95, 114, 101, 102, 32, 114, 101, 116, 117, 114, 110, 95, 99, 97, 108, 108, 95, 114, 101, 102]⟩, ⟨#[120]⟩⟩,
  ⟨26, ⟨#[]⟩, ⟨#[100, 114, 111, 112, 32, 115, 101, 108, 101, 99, 116]⟩, ⟨#[45]⟩⟩,
  ⟨28, ⟨#[]⟩, ⟨#[115, 101, 108, 101, 99, 116, 95, 116]⟩, ⟨#[115, 101, 108, 101, 99, 116]⟩⟩,
  ⟨31, ⟨#[]⟩, ⟨#[116, 114, 121, 95, 116, 97, 98, 108, 101]⟩, ⟨#[116, 114, 121]⟩⟩,
  ⟨32, ⟨#[]⟩, ⟨#[108, 111, 99, 97, 108, 46, 103, 101, 116, 32, 108, 111, 99, 97, 108, 46, 115, 101, 116, 32, 108, 111, 99, 97, 108, 46, 116, 101, 101, 32, 103, 108, 111, 98, 97, 108, 46, 103, 101, 116, 32, 103, 108, 111, 98, 97, 108, 46, 115, 101, 116, 32, 116, 97, 98, 108, 101, 46, 103, 101, 116, 32, 116, 97, 98, 108, 101, 46, 115, 101, 116]⟩, ⟨#[120]⟩⟩,
  ⟨40, ⟨#[]⟩, ⟨#[105, 51, 50, 46, 108, 111, 97, 100, 32, 105, 54, 52, 46, 108, 111, 97, 100, 32, 102, 51, 50, 46, 108, 111, 97, 100, 32, 102, 54, 52, 46, 108, 111, 97, 100, 32, 105, 51, 50, 46, 108, 111, 97, 100, 56, 95, 115, 32, 105, 51, 50, 46, 108, 111, 97, 100, 56, 95, 117, 32, 105, 51, 50, 46, 108, 111, 97, 100, 49, 54, 95, 115, 32, 105, 51, 50, 46, 108, 111, 97, 100, 49, 54, 95, 117, 32, 105, 54, 52, 46, 108, 111, 97, 100, 56, 95, 115, 32, 105, 54, 52, 46, 108, 111, 97, 100, 56, 95, 117, 32, 105, 54, 52, 46, 108, 111, 97, 100, 49, 54, 95, 115, 32, 105, 54, 52, 46, 108, 111, 97, 100, 49, 54, 95, 117, 32, 105, 54, 52, 46, 108, 111, 97, 100, 51, 50, 95, 115, 32, 105, 54, 52, 46, 108, 111, 97, 100, 51, 50, 95, 117, 32, 105, 51, 50, 46, 115, 116, 111, 114, 101, 32, 105, 54, 52, 46, 115, 116, 111, 114, 101, 32, 102, 51, 50, 46, 115, 116, 111, 114, 101, 32, 102, 54, 52, 46, 115, 116, 111, 114, 101, 32, 105, 51, 50, 46, 115, 116, 111, 114, 101, 56, 32, 105, 51, 50, 46, 115, 116, 111, 114, 101, 49, 54, 32, 105, 54, 52, 46, 115, 116, 111, 114, 101, 56, 32, 105, 54, 52, 46, 115, 116, 111, 114, 101, 49, 54, 32, 105, 54, 52, 46, 115, 116, 111, 114, 101, 51, 50]⟩, ⟨#[109, 101, 109]⟩⟩,
  ⟨63, ⟨#[]⟩, ⟨#[109, 101, 109, 111, 114, 121, 46, 115, 105, 122, 101, 32, 109, 101, 109, 111, 114, 121, 46, 103, 114, 111, 119]⟩, ⟨#[120]⟩⟩,
  ⟨65, ⟨#[]⟩, ⟨#[105, 51, 50, 46, 99, 111, 110, 115, 116]⟩, ⟨#[105, 51, 50]⟩⟩,
  ⟨66, ⟨#[]⟩, ⟨#[105, 54, 52, 46, 99, 111, 110, 115, 116]⟩, ⟨#[105, 54, 52]⟩⟩,
  ⟨67, ⟨#[]⟩, ⟨#[102, 51, 50, 46, 99, 111, 110, 115, 116]⟩, ⟨#[102, 51, 50]⟩⟩,
  ⟨68, ⟨#[]⟩, ⟨#[102, 54, 52, 46, 99, 111, 110, 115, 116]⟩, ⟨#[102, 54, 52]⟩⟩,
  ⟨69, ⟨#[105, 51, 50, 46]⟩, ⟨#[101, 113, 122, 32, 101, 113, 32, 110, 101, 32, 108, 116, 95, 115, 32, 108, 116, 95, 117, 32, 103, 116, 95, 115, 32, 103, 116, 95, 117, 32, 108, 101, 95, 115, 32, 108, 101, 95, 117, 32, 103, 101, 95, 115, 32, 103, 101, 95, 117]⟩, ⟨#[45]⟩⟩,
  ⟨80, ⟨#[105, 54, 52, 46]⟩, ⟨#[101, 113, 122, 32, 101, 113, 32, 110, 101, 32, 108, 116, 95, 115, 32, 108, 116, 95, 117, 32, 103, 116, 95, 115, 32, 103, 116, 95, 117, 32, 108, 101, 95, 115, 32, 108, 101, 95, 117, 32, 103, 101, 95, 115, 32, 103, 101, 95, 117]⟩, ⟨#[45]⟩⟩,
  ⟨91, ⟨#[102, 51, 50, 46]⟩, ⟨#[101, 113, 32, 110, 101, 32, 108, 116, 32, 103, 116, 32, 108, 101, 32, 103, 101]⟩, ⟨#[45]⟩⟩,
  ⟨97, ⟨#[102, 54, 52, 46]⟩, ⟨#[101, 113, 32, 110, 101, 32, 108, 116, 32, 103, 116, 32, 108, 101, 32, 103, 101]⟩, ⟨#[45]⟩⟩,
  ⟨103, ⟨#[105, 51, 50, 46]⟩, ⟨#[99, 108, 122, 32, 99, 116, 122, 32, 112, 111, 112, 99, 110, 116, 32, 97, 100, 100, 32, 115, 117, 98, 32, 109, 117, 108, 32, 100, 105, 118, 95, 115, 32, 100, 105, 118, 95, 117, 32, 114, 101, 109, 95, 115, 32, 114, 101, 109, 95, 117, 32, 97, 110, 100, 32, 111, 114, 32, 120, 111, 114, 32, 115, 104, 108, 32, 115, 104, 114, 95, 115, 32, 115, 104, 114, 95, 117, 32, 114, 111, 116, 108, 32, 114, 111, 116, 114]⟩, ⟨#[45]⟩⟩,
  ⟨121, ⟨#[105, 54, 52, 46]⟩, ⟨#[99, 108, 122, 32, 99, 116, 122, 32, 112, 111, 112, 99, 110, 116, 32, 97, 100, 100, 32, 115, 117, 98, 32, 109, 117, 108, 32, 100, 105, 118, 95, 115, 32, 100, 105, 118, 95, 117, 32, 114, 101, 109, 95, 115, 32, 114, 101, 109, 95, 117, 32, 97, 110, 100, 32, 111, 114, 32, 120, 111, 114, 32, 115, 104, 108, 32, 115, 104, 114, 95, 115, 32, 115, 104, 114, 95, 117, 32, 114, 111, 116, 108, 32, 114, 111, 116, 114]⟩, ⟨#[45]⟩⟩,
  ⟨139, ⟨#[102, 51, 50, 46]⟩, ⟨#[97, 98, 115, 32, 110, 101, 103, 32, 99, 101, 105, 108, 32, 102, 108, 111, 111, 114, 32, 116, 114, 117, 110, 99, 32, 110, 101, 97, 114, 101, 115, 116, 32, 115, 113, 114, 116, 32, 97, 100, 100, 32, 115, 117, 98, 32, 109, 117, 108, 32, 100, 105, 118, 32, 109, 105, 110, 32, 109, 97, 120, 32, 99, 111, 112, 121, 115, 105, 103, 110]⟩, ⟨#[45]⟩⟩,
  ⟨153, ⟨#[102, 54, 52, 46]⟩, ⟨#[97, 98, 115, 32, 110, 101, 103, 32, 99, 101, 105, 108, 32, 102, 108, 111, 111, 114, 32, 116, 114, 117, 110, 99, 32, 110, 101, 97, 114, 101, 115, 116, 32, 115, 113, 114, 116, 32, 97, 100, 100, 32, 115, 117, 98, 32, 109, 117, 108, 32, 100, 105, 118, 32, 109, 105, 110, 32, 109, 97, 120, 32, 99, 111, 112, 121, 115, 105, 103, 110]⟩, ⟨#[45]⟩⟩,
  ⟨167, ⟨#[105, 51, 50, 46]⟩, ⟨#[119, 114, 97, 112, 95, 105, 54, 52, 32, 116, 114, 117, 110, 99, 95, 102, 51, 50, 95, 115, 32, 116, 114, 117, 110, 99, 95, 102, 51, 50, 95, 117, 32, 116, 114, 117, 110, 99, 95, 102, 54, 52, 95, 115, 32, 116, 114, 117, 110, 99, 95, 102, 54, 52, 95, 117]⟩, ⟨#[45]⟩⟩,
  ⟨172, ⟨#[105, 54, 52, 46]⟩, ⟨#[101, 120, 116, 101, 110, 100, 95, 105, 51, 50, 95, 115, 32, 101, 120, 116, 101, 110, 100, 95, 105, 51, 50, 95, 117, 32, 116, 114, 117, 110, 99, 95, 102, 51, 50, 95, 115, 32, 116, 114, 117, 110, 99, 95, 102, 51, 50, 95, 117, 32, 116, 114, 117, 110, 99, 95, 102, 54, 52, 95, 115, 32, 116, 114, 117, 110, 99, 95, 102, 54, 52, 95, 117]⟩, ⟨#[45]⟩⟩,
  ⟨178, ⟨#[102, 51, 50, 46]⟩, ⟨#[99, 111, 110, 118, 101, 114, 116, 95, 105, 51, 50, 95, 115, 32, 99, 111, 110, 118, 101, 114, 116, 95, 105, 51, 50, 95, 117, 32, 99, 111, 110, 118, 101, 114, 116, 95, 105, 54, 52, 95, 115, 32, 99, 111, 110, 118, 101, 114, 116, 95, 105, 54, 52, 95, 117, 32, 100, 101, 109, 111, 116, 101, 95, 102, 54, 52]⟩, ⟨#[45]⟩⟩,
  ⟨183, ⟨#[102, 54, 52, 46]⟩, ⟨#[99, 111, 110, 118, 101, 114, 116, 95, 105, 51, 50, 95, 115, 32, 99, 111, 110, 118, 101, 114, 116, 95, 105, 51, 50, 95, 117, 32, 99, 111, 110, 118, 101, 114, 116, 95, 105, 54, 52, 95, 115, 32, 99, 111, 110, 118, 101, 114, 116, 95, 105, 54, 52, 95, 117, 32, 112, 114, 111, 109, 111, 116, 101, 95, 102, 51, 50]⟩, ⟨#[45]⟩⟩,
  ⟨188, ⟨#[]⟩, ⟨#[105, 51, 50, 46, 114, 101, 105, 110, 116, 101, 114, 112, 114, 101, 116, 95, 102, 51, 50, 32, 105, 54, 52, 46, 114, 101, 105, 110, 116, 101, 114, 112, 114, 101, 116, 95, 102, 54, 52, 32, 102, 51, 50, 46, 114, 101, 105, 110, 116, 101, 114, 112, 114, 101, 116, 95, 105, 51, 50, 32, 102, 54, 52, 46, 114, 101, 105, 110, 116, 101, 114, 112, 114, 101, 116, 95, 105, 54, 52]⟩, ⟨#[45]⟩⟩,
  ⟨192, ⟨#[]⟩, ⟨#[105, 51, 50, 46, 101, 120, 116, 101, 110, 100, 56, 95, 115, 32, 105, 51, 50, 46, 101, 120, 116, 101, 110, 100, 49, 54, 95, 115, 32, 105, 54, 52, 46, 101, 120, 116, 101, 110, 100, 56, 95, 115, 32, 105, 54, 52, 46, 101, 120, 116, 101, 110, 100, 49, 54, 95, 115, 32, 105, 54, 52, 46, 101, 120, 116, 101, 110, 100, 51, 50, 95, 115]⟩, ⟨#[45]⟩⟩]
theorem uyl {H : Heap} : run (C u73 []) H = some (.ok (.slice true false 4 (tabR.map RRow.enc)) H) := by
  rw [ub6]
  exact ubz (by kernel_rfl)
def refR : List RRow := [
  ⟨208, ⟨#[]⟩, ⟨#[114, 101, 102, 46, 110, 117, 108, 108]⟩, ⟨#[104, 101, 97, 112]⟩⟩,
  ⟨209, ⟨#[]⟩, ⟨#[114, 101, 102, 46, 105, 115, 95, 110, 117, 108, 108]⟩, ⟨#[45]⟩⟩,
  ⟨210, ⟨#[]⟩, ⟨#[114, 101, 102, 46, 102, 117, 110, 99]⟩, ⟨#[120]⟩⟩,
  ⟨211, ⟨#[]⟩, ⟨#[114, 101, 102, 46, 101, 113, 32, 114, 101, 102, 46, 97, 115, 95, 110, 111, 110, 95, 110, 117, 108, 108]⟩, ⟨#[45]⟩⟩,
  ⟨213, ⟨#[]⟩, ⟨#[98, 114, 95, 111, 110, 95, 110, 117, 108, 108, 32, 98, 114, 95, 111, 110, 95, 110, 111, 110, 95, 110, 117, 108, 108]⟩, ⟨#[120]⟩⟩,
  ⟨64256, ⟨#[]⟩, ⟨#[115, 116, 114, 117, 99, 116, 46, 110, 101, 119, 32, 115, 116, 114, 117, 99, 116, 46, 110, 101, 119, 95, 100, 101, 102, 97, 117, 108, 116]⟩, ⟨#[120]⟩⟩,
  ⟨64258, ⟨#[]⟩, ⟨#[115, 116, 114, 117, 99, 116, 46, 103, 101, 116, 32, 115, 116, 114, 117, 99, 116, 46, 103, 101, 116, 95, 115, 32, 115, 116, 114, 117, 99, 116, 46, 103, 101, 116, 95, 117, 32, 115, 116, 114, 117, 99, 116, 46, 115, 101, 116]⟩, ⟨#[120, 121]⟩⟩,
  ⟨64262, ⟨#[]⟩, ⟨#[97, 114, 114, 97, 121, 46, 110, 101, 119, 32, 97, 114, 114, 97, 121, 46, 110, 101, 119, 95, 100, 101, 102, 97, 117, 108, 116]⟩, ⟨#[120]⟩⟩,
  ⟨64264, ⟨#[]⟩, ⟨#[97, 114, 114, 97, 121, 46, 110, 101, 119, 95, 102, 105, 120, 101, 100]⟩, ⟨#[120, 110]⟩⟩,
  ⟨64265, ⟨#[]⟩, ⟨#[97, 114, 114, 97, 121, 46, 110, 101, 119, 95, 100, 97, 116, 97, 32, 97, 114, 114, 97, 121, 46, 110, 101, 119, 95, 101, 108, 101, 109]⟩, ⟨#[120, 121]⟩⟩,
  ⟨64267, ⟨#[]⟩, ⟨#[97, 114, 114, 97, 121, 46, 103, 101, 116, 32, 97, 114, 114, 97, 121, 46, 103, 101, 116, 95, 115, 32, 97, 114, 114, 97, 121, 46, 103, 101, 116, 95, 117, 32, 97, 114, 114, 97, 121, 46, 115, 101, 116]⟩, ⟨#[120]⟩⟩,
  ⟨64271, ⟨#[]⟩, ⟨#[97, 114, 114, 97, 121, 46, 108, 101, 110]⟩, ⟨#[45]⟩⟩,
  ⟨64272, ⟨#[]⟩, ⟨#[97, 114, 114, 97, 121, 46, 102, 105, 108, 108]⟩, ⟨#[120]⟩⟩,
  ⟨64273, ⟨#[]⟩, ⟨#[97, 114, 114, 97, 121, 46, 99, 111, 112, 121, 32, 97, 114, 114, 97, 121, 46, 105, 110, 105, 116, 95, 100, 97, 116, 97, 32, 97, 114, 114, 97, 121, 46, 105, 110, 105, 116, 95, 101, 108, 101, 109]⟩, ⟨#[120, 121]⟩⟩,
  ⟨64276, ⟨#[]⟩, ⟨#[114, 101, 102, 46, 116, 101, 115, 116, 32, 114, 101, 102, 46, 116, 101, 115, 116, 95, 110, 117, 108, 108, 32, 114, 101, 102, 46, 99, 97, 115, 116, 32, 114, 101, 102, 46, 99, 97, 115, 116, 95, 110, 117, 108, 108]⟩, ⟨#[99, 97, 115, 116]⟩⟩,
  ⟨64280, ⟨#[]⟩, ⟨#[98, 114, 95, 111, 110, 95, 99, 97, 115, 116, 32, 98, 114, 95, 111, 110, 95, 99, 97, 115, 116, 95, 102, 97, 105, 108]⟩, ⟨#[98, 114, 95, 99, 97, 115, 116]⟩⟩,
  ⟨64282, ⟨#[]⟩, ⟨#[97, 110, 121, 46, 99, 111, 110, 118, 101, 114, 116, 95, 101, 120, 116, 101, 114, 110, 32, 101, 120, 116, 101, 114, 110, 46, 99, 111, 110, 118, 101, 114, 116, 95, 97, 110, 121, 32, 114, 101, 102, 46, 105, 51, 49, 32, 105, 51, 49, 46, 103, 101, 116, 95, 115, 32, 105, 51, 49, 46, 103, 101, 116, 95, 117]⟩, ⟨#[45]⟩⟩,
  ⟨64512, ⟨#[]⟩, ⟨#[105, 51, 50, 46, 116, 114, 117, 110, 99, 95, 115, 97, 116, 95, 102, 51, 50, 95, 115, 32, 105, 51, 50, 46, 116, 114, 117, 110, 99, 95, 115, 97, 116, 95, 102, 51, 50, 95, 117, 32, 105, 51, 50, 46, 116, 114, 117, 110, 99, 95, 115, 97, 116, 95, 102, 54, 52, 95, 115, 32, 105, 51, 50, 46, 116, 114, 117, 110, 99, 95, 115, 97, 116, 95, 102, 54, 52, 95, 117, 32, 105, 54, 52, 46, 116, 114, 117, 110, 99, 95, 115, 97, 116, 95, 102, 51, 50, 95, 115, 32, 105, 54, 52, 46, 116, 114, 117, 110, 99, 95, 115, 97, 116, 95, 102, 51, 50, 95, 117, 32, 105, 54, 52, 46, 116, 114, 117, 110, 99, 95, 115, 97, 116, 95, 102, 54, 52, 95, 115, 32, 105, 54, 52, 46, 116, 114, 117, 110, 99, 95, 115, 97, 116, 95, 102, 54, 52, 95, 117]⟩, ⟨#[45]⟩⟩,
  ⟨64520, ⟨#[]⟩, ⟨#[109, 101, 109, 111, 114, 121, 46, 105, 110, 105, 116]⟩, ⟨#[120, 121]⟩⟩,
  ⟨64521, ⟨#[]⟩, ⟨#[100, 97, 116, 97, 46, 100, 114, 111, 112]⟩, ⟨#[120]⟩⟩,
  ⟨64522, ⟨#[]⟩, ⟨#[109, 101, 109, 111, 114, 121, 46, 99, 111, 112, 121]⟩, ⟨#[120, 121]⟩⟩,
  ⟨64523, ⟨#[]⟩, ⟨#[109, 101, 109, 111, 114, 121, 46, 102, 105, 108, 108]⟩, ⟨#[120]⟩⟩,
  ⟨64524, ⟨#[]⟩, ⟨#[116, 97, 98, 108, 101, 46, 105, 110, 105, 116]⟩, ⟨#[120, 121]⟩⟩,
  ⟨64525, ⟨#[]⟩, ⟨#[101, 108, 101, 109, 46, 100, 114, 111, 112]⟩, ⟨#[120]⟩⟩,
  ⟨64526, ⟨#[]⟩, ⟨#[116, 97, 98, 108, 101, 46, 99, 111, 112, 121]⟩, ⟨#[120, 121]⟩⟩,
  ⟨64527, ⟨#[]⟩, ⟨#[116, 97, 98, 108, 101, 46, 103, 114, 111, 119, 32, 116, 97, 98, 108, 101, 46, 115, 105, 122, 101, 32, 116, 97, 98, 108, 101, 46, 102, 105, 108, 108]⟩, ⟨#[120]⟩⟩]
theorem uzp {H : Heap} : run (C u7k []) H = some (.ok (.slice true false 4 (refR.map RRow.enc)) H) := by
  rw [uc4]
  exact ubz (by kernel_rfl)
end Go.Proofs.YthidcpkcfoldmaaGreat.Pi.Q
namespace Go.Proofs.YthidcpkcfoldmaaGreat.Pi.Q
open Go Go.Proofs.YthidcpkcfoldmaaGreat.Pi
attribute [local congr] ite_congr
def wordP : List UInt8 → Nat → Nat → Nat → Nat × Nat
  | [], n, f, p => (f, p)
  | c :: r, n, f, p => if c = 32 then (match n with | 0 => (f, p) | n + 1 => wordP r n (p + 1) (p + 1)) else wordP r n f (p + 1)
def wordR : List UInt8 → Nat → Nat → Nat → Option (Nat × Nat)
  | [], n, f, p => (match n with | 0 => some (f, p) | n + 1 => none)
  | c :: r, n, f, p => if c = 32 then (match n with | 0 => some (f, p) | n + 1 => wordR r n (p + 1) (p + 1)) else wordR r n f (p + 1)
def strP (s : ByteArray) (n : Nat) : ByteArray := s.extract (wordP s.data.toList n 0 0).1 (wordP s.data.toList n 0 0).2
def strR (s : ByteArray) (n : Nat) : Option ByteArray := (wordR s.data.toList n 0 0).map fun w => s.extract w.1 w.2
def plainS (s : ByteArray) : Bool := s.data.toList.all fun c => decide (c.toNat < 128)
theorem un3 {s : ByteArray} {p : Nat} {c : UInt8} (h : s.data.toList[p]? = some c) (hc : c.toNat < 128) : Utf8.decode s p = (c.toNat, 1) := by
  have hp : p < s.data.size := by
    have := (List.getElem?_eq_some_iff.mp h).1
    simpa using this
  have e : s.get! p = c := by
    have := (List.getElem?_eq_some_iff.mp h).2
    show s.data[p]! = c
    rw [getElem!_pos s.data p hp]
    simpa using this
  unfold Utf8.decode
  simp only [Nat.add_zero, e, if_pos hc]
theorem uuw {s : ByteArray} : s.size = s.data.toList.length := Array.length_toList.symm
attribute [local irreducible] Utf8.decode
theorem uy7 {s : ByteArray} {H : Heap} : run (rg (.str s)) H = some (.ok (.ptr H.length 0) (hadd H [.iter s 0])) := nrfl rfl
def nxB (id : Nat) (H : Heap) : Option Box → Option (Out PV)
  | some (.iter s pos) => bif decide (pos < s.size) then some (.ok (.tup [.bool true, .int .i64 pos, .int .i32 (Utf8.decode s pos).1]) (hset H id (.iter s (pos + (Utf8.decode s pos).2)))) else some (.ok (.tup [.bool false]) H)
  | _ => none
theorem run_nx {id : Nat} {H : Heap} : run (nx (.ptr id 0)) H = nxB id H (hget H id) := by
  unfold run nx nxB
  rfl
theorem uot {id : Nat} {H : Heap} {s : ByteArray} {p : Nat} : nxB id H (some (.iter s p)) = if p < s.size then some (.ok (.tup [.bool true, .int .i64 p, .int .i32 (Utf8.decode s p).1]) (hset H id (.iter s (p + (Utf8.decode s p).2)))) else some (.ok (.tup [.bool false]) H) := by
  show (bif decide (p < s.size) then _ else _) = _
  by_cases h : p < s.size
  · rw [decide_eq_true h, if_pos h]; rfl
  · rw [decide_eq_false h, if_neg h]; rfl
theorem uz5 {s : ByteArray} {H : Heap} {L : List Box} {p : Nat} (hp : p < s.size) : run (nx (.ptr H.length 0)) (hadd H (.iter s p :: L)) = some (.ok (.tup [.bool true, .int .i64 p, .int .i32 (Utf8.decode s p).1]) (hadd H (.iter s (p + (Utf8.decode s p).2) :: L))) := by
  rw [run_nx, u86, uft, uot, if_pos hp, udv]
  rfl
theorem uyw {s : ByteArray} {H : Heap} {L : List Box} {p : Nat} (hp : ¬ p < s.size) : run (nx (.ptr H.length 0)) (hadd H (.iter s p :: L)) = some (.ok (.tup [.bool false]) (hadd H (.iter s p :: L))) := by
  rw [run_nx, u86, uft, uot, if_neg hp]
theorem uob {s : ByteArray} {a b : Nat} {H : Heap} (h1 : a ≤ b) (h2 : b ≤ s.size) : run (slS (.str s) (some (.int .i64 a)) (some (.int .i64 b))) H = some (.ok (.str (s.extract a b)) H) := by
  unfold run slS bnd
  simp [h1, h2]
  rfl
theorem uy1 {s : ByteArray} {a : Nat} {H : Heap} (h1 : a ≤ s.size) : run (slS (.str s) (some (.int .i64 a)) none) H = some (.ok (.str (s.extract a s.size)) H) := by
  unfold run slS bnd
  simp [h1]
  rfl
theorem ixS_at {s : ByteArray} {p : Nat} {c : UInt8} {H : Heap} (h : s.data.toList[p]? = some c) : run (ixS (.str s) (.int .i64 p)) H = some (.ok (.int .u8 c.toNat) H) := by
  unfold run ixS
  simp only [Int.toNat_natCast, h]
  simp
  rfl
theorem uju {s : ByteArray} {H : Heap} {v4 : PV} (hlen : s.size < 2 ^ 62) : ∀ (l : List UInt8) (n f p : Nat), (∀ k, s.data.toList[p + k]? = l[k]?) → (∀ c ∈ l, c.toNat < 128) → f ≤ p → p + l.length = s.size → n < 2 ^ 62 →
    ∃ q, run (u5w (.str s) (.int .i64 n) v4 (.int .i64 f) (.ptr H.length 0)) (hadd H [.iter s p]) = some (.ok (.str (s.extract (wordP l n f p).1 (wordP l n f p).2)) (hadd H [.iter s q]))
  | [], n, f, p, hk, ha, hf, hp, hn => by
    have h1 : ¬ p < s.size := by simp at hp; omega
    have e : p = s.size := by simpa using hp
    have hx := uyw (H := H) (L := []) h1
    have hs := fun K => uy1 (H := K) (s := s) (a := f) (by omega)
    refine ⟨p, ?_⟩
    rw [u5i]
    simp +contextual -dsimp (disch := omega) only [↓goDown, goUp, cr, simprocAttr, hx, hs, wordP]
    rw [e]
  | c :: r, n, f, p, hk, ha, hf, hp, hn => by
    have h1 : p < s.size := by simp at hp; omega
    have hc : s.data.toList[p]? = some c := by simpa using hk 0
    have hd := un3 hc (ha c (by simp))
    have hx := uz5 (H := H) (L := []) h1
    rw [hd] at hx
    have e1 : ((p : Nat) : Int) + 1 = ((p + 1 : Nat) : Int) := by omega
    have hr : ∀ k, s.data.toList[p + 1 + k]? = r[k]? := fun k => by
      have := hk (k + 1)
      rw [show p + (k + 1) = p + 1 + k by omega] at this
      simpa using this
    by_cases h32 : c = 32
    · subst h32
      have c1 : ((((32 : UInt8).toNat : Nat) : Int) = 32) = True := eq_true rfl
      cases n with
      | zero =>
        have hs := fun K => uob (H := K) (s := s) (a := f) (b := p) hf (by omega)
        refine ⟨p + 1, ?_⟩
        rw [u5i]
        simp +contextual -dsimp (disch := omega) only [↓goDown, goUp, cr, simprocAttr, hx, hs, c1, wordP, Int.natCast_zero, Int.cast_ofNat_Int]
      | succ n =>
        obtain ⟨q, ih⟩ := uju (H := H) (v4 := v4) hlen r n (p + 1) (p + 1) hr (fun c hc => ha c (by simp [hc])) (Nat.le_refl _) (by simp at hp; omega) (by omega)
        have e2 : ((n + 1 : Nat) : Int) - 1 = (n : Int) := by omega
        have c2 : (((n + 1 : Nat) : Int) = 0) = False := by simp; omega
        refine ⟨q, ?_⟩
        rw [u5i]
        simp +contextual -dsimp (disch := omega) only [↓goDown, goUp, cr, simprocAttr, hx, c1, c2, e1, e2, ih, wordP]
    · have c1 : (((c.toNat : Nat) : Int) = 32) = False := by
        refine eq_false fun h => h32 ?_
        exact UInt8.toNat_inj.mp (by have : c.toNat = 32 := by omega
                                     rw [this]; rfl)
      obtain ⟨q, ih⟩ := uju (H := H) (v4 := v4) hlen r n f (p + 1) hr (fun c hc => ha c (by simp [hc])) (by omega) (by simp at hp; omega) hn
      refine ⟨q, ?_⟩
      rw [u5i]
      simp +contextual -dsimp (disch := omega) only [↓goDown, goUp, cr, simprocAttr, hx, c1, ih, wordP, h32]
theorem uyr {s : ByteArray} {n : Nat} {H : Heap} (hlen : s.size < 2 ^ 62) (ha : plainS s = true) (hn : n < 2 ^ 62) : run (C uak [.str s, .int .i64 n]) H = some (.ok (.str (strP s n)) H) := by
  obtain ⟨q, h⟩ := uju (s := s) (H := H) (v4 := .str ⟨#[]⟩) hlen s.data.toList n 0 0 (fun k => by rw [Nat.zero_add]) (fun c hc => by
    have := List.all_eq_true.mp ha c hc
    simpa using this) (Nat.le_refl _) (by rw [uuw]; simp) hn
  have e0 : ((0 : Nat) : Int) = 0 := rfl
  rw [e0] at h
  rw [ulf]
  simp +contextual -dsimp (disch := omega) only [↓goDown, goUp, cr, simprocAttr, uy7, h]
  rfl
theorem ug3 {s : ByteArray} {H : Heap} {v4 v5 : PV} (hlen : s.size < 2 ^ 62) : ∀ (l : List UInt8) (n f p : Nat), (∀ k, s.data.toList[p + k]? = l[k]?) → f ≤ p → p + l.length = s.size → n < 2 ^ 62 →
    run (u4b (.str s) (.int .i64 n) v4 v5 (.int .i64 f) (.int .i64 p)) H = some (.ok (match wordR l n f p with | some w => .tup [.str (s.extract w.1 w.2), .bool true] | none => .tup [.str ⟨#[]⟩, .bool false]) H)
  | [], n, f, p, hk, hf, hp, hn => by
    have e : p = s.size := by simpa using hp
    have hs := fun K => uob (H := K) (s := s) (a := f) (b := p) hf (by omega)
    have e1 : ((p : Nat) : Int) + 1 = ((p + 1 : Nat) : Int) := by omega
    have l1 : (((p : Nat) : Int) ≤ (s.size : Int)) = True := eq_true (by omega)
    have l2 : (((p : Nat) : Int) < (s.size : Int)) = False := eq_false (by omega)
    cases n with
    | zero =>
      rw [u1p]
      simp +contextual -dsimp (disch := omega) only [↓goDown, goUp, cr, simprocAttr, ubg, l1, l2, hs, wordR, Int.natCast_zero, Int.cast_ofNat_Int]
    | succ n =>
      have c2 : (((n + 1 : Nat) : Int) = 0) = False := by simp; omega
      have e2 : ((n + 1 : Nat) : Int) - 1 = (n : Int) := by omega
      have l4 : (((p + 1 : Nat) : Int) ≤ (s.size : Int)) = False := eq_false (by omega)
      rw [u1p]
      simp +contextual -dsimp (disch := omega) only [↓goDown, goUp, cr, simprocAttr, ubg, l1, l2, e1, e2, c2, wordR, u42]
      rw [u1p]
      simp +contextual -dsimp (disch := omega) only [↓goDown, goUp, cr, simprocAttr, ubg, l4]
  | c :: r, n, f, p, hk, hf, hp, hn => by
    have h1 : p < s.size := by simp at hp; omega
    have hc : s.data.toList[p]? = some c := by simpa using hk 0
    have hx := fun K => ixS_at (H := K) hc
    have e1 : ((p : Nat) : Int) + 1 = ((p + 1 : Nat) : Int) := by omega
    have l1 : (((p : Nat) : Int) ≤ (s.size : Int)) = True := eq_true (by omega)
    have l2 : (((p : Nat) : Int) < (s.size : Int)) = True := eq_true (by omega)
    have hr : ∀ k, s.data.toList[p + 1 + k]? = r[k]? := fun k => by
      have := hk (k + 1)
      rw [show p + (k + 1) = p + 1 + k by omega] at this
      simpa using this
    by_cases h32 : c = 32
    · subst h32
      have c1 : ((((32 : UInt8).toNat : Nat) : Int) = 32) = True := eq_true rfl
      cases n with
      | zero =>
        have hs := fun K => uob (H := K) (s := s) (a := f) (b := p) hf (by omega)
        rw [u1p]
        simp +contextual -dsimp (disch := omega) only [↓goDown, goUp, cr, simprocAttr, ubg, l1, l2, hx, hs, c1, wordR, Int.natCast_zero, Int.cast_ofNat_Int]
      | succ n =>
        have ih := ug3 (H := H) (v4 := v4) (v5 := v5) hlen r n (p + 1) (p + 1) hr (Nat.le_refl _) (by simp at hp; omega) (by omega)
        have e2 : ((n + 1 : Nat) : Int) - 1 = (n : Int) := by omega
        have c2 : (((n + 1 : Nat) : Int) = 0) = False := by simp; omega
        rw [u1p]
        simp +contextual -dsimp (disch := omega) only [↓goDown, goUp, cr, simprocAttr, ubg, l1, l2, hx, c1, c2, e1, e2, ih, wordR, u42]
    · have c1 : (((c.toNat : Nat) : Int) = 32) = False := by
        refine eq_false fun h => h32 ?_
        exact UInt8.toNat_inj.mp (by have : c.toNat = 32 := by omega
                                     rw [this]; rfl)
      have ih := ug3 (H := H) (v4 := v4) (v5 := v5) hlen r n f (p + 1) hr (by omega) (by simp at hp; omega) hn
      rw [u1p]
      simp +contextual -dsimp (disch := omega) only [↓goDown, goUp, cr, simprocAttr, ubg, l1, l2, hx, c1, e1, ih, wordR, h32, u42]
theorem uzx {s : ByteArray} {n : Nat} {H : Heap} (hlen : s.size < 2 ^ 62) (hn : n < 2 ^ 62) : run (C u57 [.str s, .int .i64 n]) H = some (.ok (match strR s n with | some w => .tup [.str w, .bool true] | none => .tup [.str ⟨#[]⟩, .bool false]) H) := by
  have h := ug3 (s := s) (H := H) (v4 := .str ⟨#[]⟩) (v5 := .bool false) hlen s.data.toList n 0 0 (fun k => by rw [Nat.zero_add]) (Nat.le_refl _) (by rw [uuw]; simp) hn
  have e0 : ((0 : Nat) : Int) = 0 := rfl
  rw [e0] at h
  rw [udh]
  unfold strR
  cases hw : wordR s.data.toList n 0 0 <;> rw [hw] at h <;>
    simp +contextual -dsimp (disch := omega) only [↓goDown, goUp, cr, simprocAttr, h, Option.map_some, Option.map_none]
end Go.Proofs.YthidcpkcfoldmaaGreat.Pi.Q
namespace Go.Proofs.YthidcpkcfoldmaaGreat.Pi.Q
open Go Go.Proofs.YthidcpkcfoldmaaGreat.Pi
attribute [local congr] ite_congr
theorem uv5 {a b : ByteArray} {ek : EqK} {H : Heap} (h : a.size + b.size < 2 ^ 62) : run (bi .add ek (.str a) (.str b)) H = some (.ok (.str (a ++ b)) H) := by
  show (bif decide (((a.size + b.size : Nat) : Int) ≤ IntKind.i64.max) then M.pure (PV.str (a ++ b)) else M.fail) H = _
  rw [decide_eq_true (by rw [show IntKind.i64.max = 9223372036854775807 from rfl]; omega)]
  rfl
theorem uij {s : ByteArray} {a b : Nat} : (s.extract a b).size ≤ s.size := by
  rw [ByteArray.size_extract]
  omega
theorem ukc {x : Box} : ∀ L : List Box, nth (L ++ [x]) L.length = some x
  | [] => rfl
  | a :: L => ukc L
theorem uk8 {x y : Box} : ∀ L : List Box, (L ++ [x]).set L.length y = L ++ [y]
  | [] => rfl
  | a :: L => congrArg (a :: ·) (uk8 L)
def okP (r : PRow) : Prop := 0 ≤ r.first ∧ r.first < 1048576 ∧ 0 ≤ r.many ∧ r.many ≤ 32 ∧ plainS r.names = true ∧ r.names.size < 1048576 ∧ r.head.size < 1048576
instance (r : PRow) : Decidable (okP r) := by unfold okP; infer_instance
def pickP (op : Int) : List PRow → Int × ByteArray × Int
  | [] => (0, ⟨#[]⟩, 0)
  | r :: l => if r.first ≤ op ∧ op < r.first + r.many then (op, r.head ++ strP r.names (op - r.first).toNat, r.form) else pickP op l
def encK (v : Int × ByteArray × Int) : PV := .agg [.int .i64 v.1, .str v.2.1, .int .i64 v.2.2]
theorem pstep {α : Type} {l rs : List α} {i : Nat} {r : α} (h : ∀ k, rs[i + k]? = (r :: l)[k]?) (k : Nat) : rs[i + 1 + k]? = l[k]? := by
  have := h (k + 1)
  rw [show i + (k + 1) = i + 1 + k by omega] at this
  simpa using this
theorem ud8 {op : Int} {rs : List PRow} {H : Heap} (h1 : -9223372036854775808 ≤ op) (h2 : op ≤ 9223372036854775807) (hrs : rs.length < 1048576) : ∀ (l : List PRow) (i : Nat), (∀ k, rs[i + k]? = l[k]?) → (∀ r ∈ l, okP r) → i + l.length = rs.length → ∀ (L : List Box),
    ∃ L', run (u62 (.int .i64 op) (.ptr H.length 0) (.slice false false 5 (rs.map PRow.enc)) (.int .i64 rs.length) (.int .i64 i)) (hadd H (.cells [.int .i64 0, .str ⟨#[]⟩, .int .i64 0] :: L)) = some (.ok (encK (pickP op l)) (hadd H L'))
  | [], i, hk, ha, hi, L => by
    have c1 : (((i : Nat) : Int) < (rs.length : Int)) = False := eq_false (by simp at hi; omega)
    refine ⟨.cells [.int .i64 0, .str ⟨#[]⟩, .int .i64 0] :: L, ?_⟩
    rw [u4y]
    simp +contextual -dsimp (disch := omega) only [↓goDown, goUp, cr, simprocAttr, c1, pickP, encK]
  | r :: l, i, hk, ha, hi, L => by
    have c1 : (((i : Nat) : Int) < (rs.length : Int)) = True := eq_true (by simp at hi; omega)
    obtain ⟨o1, o2, o3, o4, o5, o6, o7⟩ := ha r (by simp)
    have hr : rs[i]? = some r := by simpa using hk 0
    have hx : ∀ K, run (iaS 5 (.slice false false 5 (rs.map PRow.enc)) (.int .i64 i)) K = some (.ok (.elem [.int .i64 r.first, .int .i64 r.many, .str r.head, .str r.names, .int .i64 r.form]) K) := fun K => by
      rw [u9r (by omega), Int.toNat_natCast, List.getElem?_map, hr]
      rfl
    have e1 : ((i : Nat) : Int) + 1 = ((i + 1 : Nat) : Int) := by omega
    obtain ⟨first, many, head, names, form⟩ := r
    simp only at o1 o2 o3 o4 o5 o6 o7 hx
    unfold pickP
    simp only
    by_cases c2 : first ≤ op
    · by_cases c3 : op < first + many
      · have hn := fun K => uyr (s := names) (n := (op - first).toNat) (H := K) (by omega) o5 (by omega)
        rw [show (((op - first).toNat : Nat) : Int) = op - first by omega] at hn
        have hcat := fun K => uv5 (a := head) (b := strP names (op - first).toNat) (ek := .none) (H := K) (by
          have := uij (s := names) (a := (wordP names.data.toList (op - first).toNat 0 0).1) (b := (wordP names.data.toList (op - first).toNat 0 0).2)
          unfold strP
          omega)
        rw [if_pos ⟨c2, c3⟩]
        refine ⟨.cells [.int .i64 op, .str (head ++ strP names (op - first).toNat), .int .i64 form] :: (L ++ [.cells [.int .i64 first, .int .i64 many, .str head, .str names, .int .i64 form]]), ?_⟩
        rw [u4y]
        simp +contextual -dsimp (disch := omega) only [↓goDown, goUp, cr, simprocAttr, ukc, uk8, c1, hx, eq_true c2, eq_true c3, hn, hcat, encK]
      · obtain ⟨L', ih⟩ := ud8 (H := H) h1 h2 hrs l (i + 1) (pstep hk) (fun r hr => ha r (by simp [hr])) (by simp at hi; omega) (L ++ [.cells [.int .i64 first, .int .i64 many, .str head, .str names, .int .i64 form]])
        rw [if_neg (fun h => c3 h.2)]
        refine ⟨L', ?_⟩
        rw [u4y]
        simp +contextual -dsimp (disch := omega) only [↓goDown, goUp, cr, simprocAttr, ukc, uk8, c1, hx, eq_true c2, c3, e1, ih]
    · obtain ⟨L', ih⟩ := ud8 (H := H) h1 h2 hrs l (i + 1) (pstep hk) (fun r hr => ha r (by simp [hr])) (by simp at hi; omega) (L ++ [.cells [.int .i64 first, .int .i64 many, .str head, .str names, .int .i64 form]])
      rw [if_neg (fun h => c2 h.1)]
      refine ⟨L', ?_⟩
      rw [u4y]
      simp +contextual -dsimp (disch := omega) only [↓goDown, goUp, cr, simprocAttr, ukc, uk8, c1, hx, c2, e1, ih]
theorem um0 {op : Int} {rs : List PRow} {H : Heap} (h1 : -9223372036854775808 ≤ op) (h2 : op ≤ 9223372036854775807) (hrs : rs.length < 1048576) (ha : ∀ r ∈ rs, okP r) : run (C u7d [.slice false false 5 (rs.map PRow.enc), .int .i64 op]) H = some (.ok (encK (pickP op rs)) H) := by
  obtain ⟨L', h⟩ := ud8 (H := H) h1 h2 hrs rs 0 (fun k => by rw [Nat.zero_add]) ha (Nat.zero_add _) []
  have e0 : ((0 : Nat) : Int) = 0 := rfl
  rw [e0] at h
  rw [ug0]
  unfold encK at h ⊢
  simp +contextual -dsimp (disch := omega) only [↓goDown, goUp, cr, simprocAttr, h, List.length_map]
theorem uz3 : ∀ r ∈ numP, okP r := by decide +kernel
theorem uyz : ∀ r ∈ othP, okP r := by decide +kernel
def opP (op : Int) : Int × ByteArray × Int := if 0 ≤ op ∧ op ≤ 196 then pickP op numP else pickP op othP
theorem ut1 {op : Int} {H : Heap} (h1 : -9223372036854775808 ≤ op) (h2 : op ≤ 9223372036854775807) : run (C u7m [.int .i64 op]) H = some (.ok (encK (opP op)) H) := by
  have w1 := fun K => um0 (rs := numP) (H := K) h1 h2 (by decide) uz3
  have w2 := fun K => um0 (rs := othP) (H := K) h1 h2 (by decide) uyz
  have n1 := fun K => uz4 (H := K)
  have n2 := fun K => uzd (H := K)
  rw [ujn]
  unfold opP
  by_cases c1 : 0 ≤ op
  · by_cases c2 : op ≤ 196
    · rw [if_pos ⟨c1, c2⟩]
      unfold encK at w1 ⊢
      simp +contextual -dsimp (disch := omega) only [↓goDown, goUp, cr, simprocAttr, eq_true c1, eq_true c2, n1, w1]
    · rw [if_neg (fun h => c2 h.2)]
      unfold encK at w2 ⊢
      simp +contextual -dsimp (disch := omega) only [↓goDown, goUp, cr, simprocAttr, eq_true c1, c2, n2, w2]
  · rw [if_neg (fun h => c1 h.1)]
    unfold encK at w2 ⊢
    simp +contextual -dsimp (disch := omega) only [↓goDown, goUp, cr, simprocAttr, c1, n2, w2]
def okR (r : RRow) : Prop := 0 ≤ r.first ∧ r.first < 1048576 ∧ r.names.size < 1048576 ∧ r.head.size < 1048576
instance (r : RRow) : Decidable (okR r) := by unfold okR; infer_instance
def pickR (op : Int) : List RRow → Option (RRow × ByteArray)
  | [] => none
  | r :: l => if r.first ≤ op ∧ op < r.first + 32 then (match strR r.names (op - r.first).toNat with | some w => some (r, r.head ++ w) | none => pickR op l) else pickR op l
def encQ : Option (RRow × ByteArray) → PV
  | some (r, w) => .tup [.agg [.int .i64 r.first, .str r.head, .str r.names, .str r.form], .str w, .bool true]
  | none => .tup [.agg [.int .i64 0, .str ⟨#[]⟩, .str ⟨#[]⟩, .str ⟨#[]⟩], .str ⟨#[]⟩, .bool false]
theorem uyx {s w : ByteArray} {n : Nat} (h : strR s n = some w) : w.size ≤ s.size := by
  unfold strR at h
  cases hw : wordR s.data.toList n 0 0 with
  | none => rw [hw] at h; cases h
  | some q => rw [hw] at h; cases h; exact uij
theorem uej {op : Int} {rs : List RRow} {H : Heap} (h1 : -9223372036854775808 ≤ op) (h2 : op ≤ 9223372036854775807) (hrs : rs.length < 1048576) : ∀ (l : List RRow) (i : Nat), (∀ k, rs[i + k]? = l[k]?) → (∀ r ∈ l, okR r) → i + l.length = rs.length →
    ∃ x, run (u3j (.int .i64 op) (.ptr H.length 0) (.str ⟨#[]⟩) (.bool false) (.slice true false 4 (rs.map RRow.enc)) (.int .i64 i)) (hadd H [.cells [.int .i64 0, .str ⟨#[]⟩, .str ⟨#[]⟩, .str ⟨#[]⟩]]) = some (.ok (encQ (pickR op l)) (hadd H [x]))
  | [], i, hk, ha, hi => by
    have c1 : (((i : Nat) : Int) < (rs.length : Int)) = False := eq_false (by simp at hi; omega)
    refine ⟨.cells [.int .i64 0, .str ⟨#[]⟩, .str ⟨#[]⟩, .str ⟨#[]⟩], ?_⟩
    rw [u1z]
    simp +contextual -dsimp (disch := omega) only [↓goDown, goUp, cr, simprocAttr, c1, List.length_map, pickR, encQ]
  | r :: l, i, hk, ha, hi => by
    have c1 : (((i : Nat) : Int) < (rs.length : Int)) = True := eq_true (by simp at hi; omega)
    obtain ⟨o1, o2, o3, o4⟩ := ha r (by simp)
    have hr : rs[i]? = some r := by simpa using hk 0
    have hx : ∀ K, run (iaS 4 (.slice false false 4 (rs.map RRow.enc)) (.int .i64 i)) K = some (.ok (.elem [.int .i64 r.first, .str r.head, .str r.names, .str r.form]) K) := fun K => by
      rw [u9r (by omega), Int.toNat_natCast, List.getElem?_map, hr]
      rfl
    have e1 : ((i : Nat) : Int) + 1 = ((i + 1 : Nat) : Int) := by omega
    obtain ⟨first, head, names, form⟩ := r
    simp only at o1 o2 o3 o4 hx
    obtain ⟨x, ih⟩ := uej (H := H) h1 h2 hrs l (i + 1) (pstep hk) (fun r hr => ha r (by simp [hr])) (by simp at hi; omega)
    unfold pickR
    simp only
    by_cases c2 : first ≤ op
    · by_cases c3 : op < first + 32
      · have hn := fun K => uzx (s := names) (n := (op - first).toNat) (H := K) (by omega) (by omega)
        rw [show (((op - first).toNat : Nat) : Int) = op - first by omega] at hn
        have c2' : (op < first) = False := eq_false (by omega)
        have c3' : (first + 32 ≤ op) = False := eq_false (by omega)
        rw [if_pos ⟨c2, c3⟩]
        cases hw : strR names (op - first).toNat with
        | none =>
          rw [hw] at hn
          refine ⟨x, ?_⟩
          rw [u1z]
          simp +contextual -dsimp (disch := omega) only [↓goDown, goUp, cr, simprocAttr, c1, hx, List.length_map, c2', c3', hn, u3i, e1, ih]
        | some w =>
          rw [hw] at hn
          have hcat := fun K => uv5 (a := head) (b := w) (ek := .none) (H := K) (by
            have := uyx hw
            omega)
          refine ⟨.cells [.int .i64 first, .str head, .str names, .str form], ?_⟩
          rw [u1z]
          simp +contextual -dsimp (disch := omega) only [↓goDown, goUp, cr, simprocAttr, c1, hx, List.length_map, c2', c3', hn, hcat, encQ]
      · have c2' : (op < first) = False := eq_false (by omega)
        have c3' : (first + 32 ≤ op) = True := eq_true (by omega)
        rw [if_neg (fun h => c3 h.2)]
        refine ⟨x, ?_⟩
        rw [u1z]
        simp +contextual -dsimp (disch := omega) only [↓goDown, goUp, cr, simprocAttr, c1, hx, List.length_map, c2', c3', u3i, e1, ih]
    · have c2' : (op < first) = True := eq_true (by omega)
      rw [if_neg (fun h => c2 h.1)]
      refine ⟨x, ?_⟩
      rw [u1z]
      simp +contextual -dsimp (disch := omega) only [↓goDown, goUp, cr, simprocAttr, c1, hx, List.length_map, c2', u3i, e1, ih]
theorem uzs : ∀ r ∈ tabR, okR r := by decide +kernel
theorem uy5 : ∀ r ∈ refR, okR r := by decide +kernel
def opR (op : Int) : Option (RRow × ByteArray) := if 208 ≤ op then pickR op refR else pickR op tabR
theorem uws {op : Int} {H : Heap} (h1 : -9223372036854775808 ≤ op) (h2 : op ≤ 9223372036854775807) : run (C u3s [.int .i64 op]) H = some (.ok (encQ (opR op)) H) := by
  obtain ⟨x, w1⟩ := uej (rs := tabR) (H := H) h1 h2 (by decide) tabR 0 (fun k => by rw [Nat.zero_add]) uzs (Nat.zero_add _)
  obtain ⟨y, w2⟩ := uej (rs := refR) (H := H) h1 h2 (by decide) refR 0 (fun k => by rw [Nat.zero_add]) uy5 (Nat.zero_add _)
  have e0 : ((0 : Nat) : Int) = 0 := rfl
  rw [e0] at w1 w2
  have n1 := fun K => uyl (H := K)
  have n2 := fun K => uzp (H := K)
  rw [uc8]
  unfold opR
  by_cases c1 : 208 ≤ op
  · rw [if_pos c1]
    cases hp : pickR op refR <;> rw [hp] at w2 <;> unfold encQ at w2 ⊢ <;>
    simp +contextual -dsimp (disch := omega) only [↓goDown, goUp, cr, simprocAttr, eq_true c1, n1, n2, u6z, w2]
  · rw [if_neg c1]
    cases hp : pickR op tabR <;> rw [hp] at w1 <;> unfold encQ at w1 ⊢ <;>
    simp +contextual -dsimp (disch := omega) only [↓goDown, goUp, cr, simprocAttr, c1, n1, n2, u6z, w1]
def formR (op : Int) : ByteArray := match opR op with | some r => r.1.form | none => ⟨#[]⟩
theorem ujq {op : Int} {H : Heap} (h1 : -9223372036854775808 ≤ op) (h2 : op ≤ 9223372036854775807) : run (C u08 [.int .i64 op]) H = some (.ok (.str (formR op)) H) := by
  have hf := fun K => uws (H := K) h1 h2
  rw [ucg]
  unfold formR
  cases hp : opR op <;> rw [hp] at hf <;> unfold encQ at hf <;>
    simp +contextual -dsimp (disch := omega) only [↓goDown, goUp, cr, simprocAttr, hf]
end Go.Proofs.YthidcpkcfoldmaaGreat.Pi.Q
namespace Go.Proofs.YthidcpkcfoldmaaGreat.Pi.Q
open Go Go.Proofs.YthidcpkcfoldmaaGreat.Pi
attribute [local congr] ite_congr
def wordsL : List (List UInt8) := [[], [45], [98, 108, 111, 99, 107], [116, 114, 121], [120], [120, 121], [116, 97, 98, 108, 101], [115, 101, 108, 101, 99, 116], [109, 101, 109], [105, 51, 50], [105, 54, 52], [102, 51, 50], [102, 54, 52], [104, 101, 97, 112], [99, 97, 115, 116], [98, 114, 95, 99, 97, 115, 116], [120, 110]]
def word (f : Nat) : List UInt8 := wordsL.getD f []
theorem uel {op : Int} : ∀ (l : List PRow), (∀ r ∈ l, ¬ (r.first ≤ op ∧ op < r.first + r.many)) → pickP op l = (0, ⟨#[]⟩, 0)
  | [], _ => rfl
  | r :: l, h => by
    unfold pickP
    rw [if_neg (h r (by simp)), uel l (fun q hq => h q (by simp [hq]))]
theorem uee {op : Int} : ∀ (l : List RRow), (∀ r ∈ l, ¬ (r.first ≤ op ∧ op < r.first + 32)) → pickR op l = none
  | [], _ => rfl
  | r :: l, h => by
    unfold pickR
    rw [if_neg (h r (by simp)), uee l (fun q hq => h q (by simp [hq]))]
def inU (a b : Int) : Prop := (0 ≤ a ∧ b ≤ 256) ∨ (64256 ≤ a ∧ b ≤ 64320) ∨ (64512 ≤ a ∧ b ≤ 64576)
instance (a b : Int) : Decidable (inU a b) := by unfold inU; infer_instance
theorem numP_u : ∀ r ∈ numP, inU r.first (r.first + r.many) := by decide +kernel
theorem othP_u : ∀ r ∈ othP, inU r.first (r.first + r.many) := by decide +kernel
theorem tabR_u : ∀ r ∈ tabR, inU r.first (r.first + 32) := by decide +kernel
theorem refR_u : ∀ r ∈ refR, inU r.first (r.first + 32) := by decide +kernel
def formN (op : Int) : Nat := (opP op).2.2.toNat
def agreeB (op : Int) : Bool := decide (formN op < 17) && ((opP op).2.2 == (formN op : Int) && ((formR op).data.toList == word (formN op) && ((formN op == 0) || (opP op).1 == op)))
theorem uvs : ∀ n ∈ List.range 256, agreeB (n : Int) = true := by decide +kernel
theorem uuu : ∀ n ∈ List.range 64, agreeB (64256 + n : Int) = true := by decide +kernel
theorem uv8 : ∀ n ∈ List.range 64, agreeB (64512 + n : Int) = true := by decide +kernel
theorem uhb (op : Int) : agreeB op = true := by
  by_cases h1 : 0 ≤ op ∧ op < 256
  · have := uvs op.toNat (List.mem_range.mpr (by omega))
    rwa [Int.toNat_of_nonneg h1.1] at this
  · by_cases h2 : 64256 ≤ op ∧ op < 64320
    · have := uuu (op - 64256).toNat (List.mem_range.mpr (by omega))
      rwa [Int.toNat_of_nonneg (by omega), show 64256 + (op - 64256) = op by omega] at this
    · by_cases h3 : 64512 ≤ op ∧ op < 64576
      · have := uv8 (op - 64512).toNat (List.mem_range.mpr (by omega))
        rwa [Int.toNat_of_nonneg (by omega), show 64512 + (op - 64512) = op by omega] at this
      · have e1 := uel (op := op) numP (fun r hr => by have := numP_u r hr; unfold inU at this; omega)
        have e2 := uel (op := op) othP (fun r hr => by have := othP_u r hr; unfold inU at this; omega)
        have e3 := uee (op := op) tabR (fun r hr => by have := tabR_u r hr; unfold inU at this; omega)
        have e4 := uee (op := op) refR (fun r hr => by have := refR_u r hr; unfold inU at this; omega)
        have k1 : opP op = (0, ⟨#[]⟩, 0) := by unfold opP; split <;> assumption
        have k2 : opR op = none := by unfold opR; split <;> assumption
        unfold agreeB formN formR
        rw [k1, k2]
        rfl
theorem ufp (op : Int) : formN op < 17 := by
  have := uhb op
  unfold agreeB at this
  simp only [Bool.and_eq_true, decide_eq_true_eq] at this
  exact this.1
theorem uxe (op : Int) : (opP op).2.2 = (formN op : Int) := by
  have := uhb op
  unfold agreeB at this
  simp only [Bool.and_eq_true, beq_iff_eq] at this
  exact this.2.1
theorem uk0 (op : Int) : formR op = ⟨(word (formN op)).toArray⟩ := by
  have := uhb op
  unfold agreeB at this
  simp only [Bool.and_eq_true, beq_iff_eq] at this
  rw [← this.2.2.1, Array.toArray_toList]
theorem u6k {a : List UInt8} : ByteArray.toList ⟨List.toArray a⟩ = a := ByteArray.toList_eq ⟨List.toArray a⟩
theorem uye {a b : List UInt8} {ek : EqK} {H : Heap} : run (bi .eql ek (.str ⟨List.toArray a⟩) (.str ⟨List.toArray b⟩)) H = some (.ok (.bool (decide (a = b))) H) := by
  rw [uo8]
  show some (Out.ok (PV.bool _) H) = _
  rw [u6k, u6k]
  congr 3
  rw [Bool.eq_iff_iff]
  simp
theorem uzk {a c : PV} {s : ByteArray} : fd 1 none (.agg [a, .str s, c]) = M.pure (.str s) := nrfl rfl
def uvf : List UInt8 := [105, 51, 50, 46, 97, 100, 100]
theorem uwg : (opP 106).2.1.data.toList = uvf := by decide +kernel
theorem utn {H : Heap} : run (C u71 []) H = some (.ok (.bool true) H) := by
  have hf := fun K => ut1 (op := 106) (H := K) (by omega) (by omega)
  have hn : (opP 106).2.1 = ⟨List.toArray [105, 51, 50, 46, 97, 100, 100]⟩ := by
    have := uwg
    unfold uvf at this
    rw [← this, Array.toArray_toList]
  unfold encK at hf
  rw [hn] at hf
  rw [ubj]
  simp +contextual -dsimp (disch := omega) only [↓goDown, goUp, cr, simprocAttr, uk1, hf, uzk, uye, decide_true]
  try rfl
end Go.Proofs.YthidcpkcfoldmaaGreat.Pi.Q
namespace Go.Proofs.YthidcpkcfoldmaaGreat.Pi.Q
open Go Go.Proofs.YthidcpkcfoldmaaGreat.Pi
attribute [local congr] ite_congr
theorem ura {H : Heap} {b : List UInt8} {z : Bool} {p e : Nat} (he : e ≤ b.length) (hb : b.length < 2 ^ 61) :
    run (C udz [.agg [BS z b, .int .i64 p, .int .i64 e]]) H = some (.ok (retU (rdU b 64 e p)) H) := by
  rw [ur2]
  have h := ubd (H := hadd H [.cells [BS z b, .int .i64 p, .int .i64 e]]) (z := z) (p := p) (B := 64) he (by omega) (.inr rfl)
  have h : run (C u2a [.agg [BS z b, .int .i64 p, .int .i64 e], .int .i64 64]) (hadd H [.cells [BS z b, .int .i64 p, .int .i64 e]]) = _ := h
  cases hr : rdU b 64 e p <;> rw [hr] at h <;> simp only [retU] at h ⊢ <;>
    simp +contextual -dsimp (disch := omega) only [↓goDown, goUp, cr, simprocAttr, h]
theorem urg {H : Heap} {b : List UInt8} {z : Bool} {p e : Nat} (he : e ≤ b.length) (hb : b.length < 2 ^ 61) (hp : p ≤ e) :
    run (C u6v [BS z b, .int .i64 p, .int .i64 e]) H = some (.ok (retU (rdU b 64 e p)) H) := by
  have h1 : run (C u2h [BS z b, .int .i64 p, .int .i64 e, .fn udz [] []]) H = some (.ok (retU (rdU b 64 e p)) H) := by
    rw [u6j]
    have h := ura (H := hadd H [.cells [BS z b, .int .i64 p, .int .i64 e]]) (z := z) (p := p) he hb
    cases hr : rdU b 64 e p <;> rw [hr] at h <;> simp only [retU] at h ⊢ <;>
      simp +contextual -dsimp (disch := omega) only [↓goDown, goUp, cr, simprocAttr, h, u78 he hp]
  rw [uro]
  cases hr : rdU b 64 e p <;> rw [hr] at h1 <;> simp only [retU] at h1 ⊢ <;>
    simp +contextual -dsimp (disch := omega) only [↓goDown, goUp, cr, simprocAttr, h1]
theorem uru {H : Heap} {b : List UInt8} {z : Bool} {p e : Nat} (he : e ≤ b.length) (hb : b.length < 2 ^ 61) :
    run (C udx [.agg [BS z b, .int .i64 p, .int .i64 e]]) H = some (.ok (retS (rdS b 64 e p)) H) := by
  rw [urm]
  have h := uai (H := hadd H [.cells [BS z b, .int .i64 p, .int .i64 e]]) (z := z) (p := p) (B := 64) he (by omega) (.inr (.inr rfl))
  have h : run (C u18 [.agg [BS z b, .int .i64 p, .int .i64 e], .int .i64 64]) (hadd H [.cells [BS z b, .int .i64 p, .int .i64 e]]) = _ := h
  cases hr : rdS b 64 e p <;> rw [hr] at h <;> simp only [retS] at h ⊢ <;>
    simp +contextual -dsimp (disch := omega) only [↓goDown, goUp, cr, simprocAttr, h]
theorem us0 {H : Heap} {b : List UInt8} {z : Bool} {p e : Nat} (he : e ≤ b.length) (hb : b.length < 2 ^ 61) (hp : p ≤ e) :
    run (C u77 [BS z b, .int .i64 p, .int .i64 e]) H = some (.ok (retS (rdS b 64 e p)) H) := by
  have h1 : run (C u30 [BS z b, .int .i64 p, .int .i64 e, .fn udx [] []]) H = some (.ok (retS (rdS b 64 e p)) H) := by
    rw [u79]
    have h := uru (H := hadd H [.cells [BS z b, .int .i64 p, .int .i64 e]]) (z := z) (p := p) he hb
    cases hr : rdS b 64 e p <;> rw [hr] at h <;> simp only [retS] at h ⊢ <;>
      simp +contextual -dsimp (disch := omega) only [↓goDown, goUp, cr, simprocAttr, h, u78 he hp]
  rw [ur3]
  cases hr : rdS b 64 e p <;> rw [hr] at h1 <;> simp only [retS] at h1 ⊢ <;>
    simp +contextual -dsimp (disch := omega) only [↓goDown, goUp, cr, simprocAttr, h1]
theorem us5 {H : Heap} {b : List UInt8} {z : Bool} {p e : Nat} (he : e ≤ b.length) (hb : b.length < 2 ^ 61) :
    run (C ue5 [.agg [BS z b, .int .i64 p, .int .i64 e]]) H = some (.ok (retS (rdS b 32 e p)) H) := by
  rw [urs]
  have h := uai (H := hadd H [.cells [BS z b, .int .i64 p, .int .i64 e]]) (z := z) (p := p) (B := 32) he (by omega) (.inl rfl)
  have h : run (C u18 [.agg [BS z b, .int .i64 p, .int .i64 e], .int .i64 32]) (hadd H [.cells [BS z b, .int .i64 p, .int .i64 e]]) = _ := h
  cases hr : rdS b 32 e p <;> rw [hr] at h <;> simp only [retS] at h ⊢ <;>
    simp +contextual -dsimp (disch := omega) only [↓goDown, goUp, cr, simprocAttr, h]
def ret32 : Rs Int → PV
  | .ok v q => .tup [.int .i32 (IntKind.i32.wrap v), .int .i64 q, .int .i64 0]
  | .err a w => .tup [.int .i32 0, .int .i64 a, .int .i64 w]
theorem ur7 {H : Heap} {b : List UInt8} {z : Bool} {p e : Nat} (he : e ≤ b.length) (hb : b.length < 2 ^ 61) (hp : p ≤ e) :
    run (C u7e [BS z b, .int .i64 p, .int .i64 e]) H = some (.ok (ret32 (rdS b 32 e p)) H) := by
  have h1 : run (C u5v [BS z b, .int .i64 p, .int .i64 e, .fn ue5 [] []]) H = some (.ok (ret32 (rdS b 32 e p)) H) := by
    rw [u9q]
    have h := us5 (H := hadd H [.cells [BS z b, .int .i64 p, .int .i64 e]]) (z := z) (p := p) he hb
    have w0 : IntKind.i32.wrap 0 = 0 := by decide
    cases hr : rdS b 32 e p with
    | ok v q =>
      rw [hr] at h
      simp only [retS, ret32] at h ⊢
      simp +contextual -dsimp only [↓goDown, goUp, cr, simprocAttr, h, u78 he hp]
    | err a w =>
      rw [hr] at h
      simp only [retS, ret32] at h ⊢
      simp +contextual -dsimp (disch := omega) only [↓goDown, goUp, cr, simprocAttr, h, u78 he hp, w0]
  rw [urk]
  cases hr : rdS b 32 e p <;> rw [hr] at h1 <;> simp only [ret32] at h1 ⊢ <;>
    simp +contextual -dsimp (disch := omega) only [↓goDown, goUp, cr, simprocAttr, h1]
def fixN (b : List UInt8) (p : Nat) : Nat → Nat → Nat
  | 0, n => n
  | i + 1, n => fixN b p i (n * 256 + (b.getD (p + i) 0).toNat)
def rdF (b : List UInt8) (k e p : Nat) : Rs Nat := if e < p + k then .err e 3 else .ok (fixN b p k 0) (p + k)
theorem fix_or {n c : Nat} (hn : n < 2 ^ 56) (hc : c < 256) : IntKind.u64.wrap ((BitVec.ofInt IntKind.u64.bits ((n * 256 : Nat) : Int) ||| BitVec.ofInt IntKind.u64.bits (c : Int)).toNat : Int) = ((n * 256 + c : Nat) : Int) := by
  rw [show IntKind.u64.bits = 64 from rfl, bv_or (by omega) (by omega), Nat.or_comm, show n * 256 = n * 2 ^ 8 by omega, ujr c 8 n hc, w_u64 (by omega)]
  omega
theorem uzf {n : Nat} (hn : n < 2 ^ 56) : IntKind.u64.wrap ((n : Int) * 2 ^ shiftN .u64 8) = ((n * 256 : Nat) : Int) := by
  rw [show shiftN .u64 8 = 8 from rfl, w_u64 (by omega)]
  omega
theorem unb {b : List UInt8} {k : Nat} (h : k < b.length) : b.getD k 0 = b[k] := by rw [List.getD_eq_getElem?_getD, List.getElem?_eq_getElem h]; rfl
theorem uqo {H : Heap} {b : List UInt8} {z : Bool} {id p e k : Nat} {v4 v5 v6 : PV} (hH : hget H id = some (.cells [BS z b, .int .i64 p, .int .i64 e])) (hb : b.length < 2 ^ 61) (hp : p + k ≤ b.length) (hk : k ≤ 8) : ∀ (i n : Nat), i ≤ k → n < 256 ^ (k - i) → 
    ∃ H', run (u3x (.int .i64 k) (.ptr id 0) v4 v5 v6 (.int .u64 n) (.int .i64 ((i : Int) - 1))) H = some (.ok (.tup [.int .u64 (fixN b p i n : Nat), .int .i64 (p + k : Nat), .int .i64 0]) H') ∧ H' = H
  | 0, n, hi, hn => by
    refine ⟨H, ?_, rfl⟩
    have c1 : ¬ (0 : Int) ≤ ((0 : Nat) : Int) - 1 := by omega
    have e1 : ((p : Nat) : Int) + (k : Int) = ((p + k : Nat) : Int) := by omega
    have hw : IntKind.i64.wrap ((p + k : Nat) : Int) = ((p + k : Nat) : Int) := w_i64 (by omega)
    rw [u6g]
    simp +contextual -dsimp (disch := omega) only [↓goDown, goUp, cr, simprocAttr, c1, hH, e1, hw, fixN]
  | i + 1, n, hi, hn => by
    have c1 : (0 : Int) ≤ ((i + 1 : Nat) : Int) - 1 := by omega
    have hn56 : n < 2 ^ 56 := by
      have : (256 : Nat) ^ (k - (i + 1)) ≤ 256 ^ 7 := Nat.pow_le_pow_right (by decide) (by omega)
      have e : (256 : Nat) ^ 7 = 2 ^ 56 := by decide
      omega
    have hlt : p + i < b.length := by omega
    have hc : (b.getD (p + i) 0).toNat < 256 := UInt8.toNat_lt _
    have hnext : n * 256 + (b.getD (p + i) 0).toNat < 256 ^ (k - i) := by
      have e : k - i = (k - (i + 1)) + 1 := by omega
      rw [e, Nat.pow_succ]
      omega
    obtain ⟨H', h1, rfl⟩ := uqo (v4 := v4) (v5 := v5) (v6 := v6) hH hb hp hk i (n * 256 + (b.getD (p + i) 0).toNat) (by omega) hnext
    refine ⟨H', ?_, rfl⟩
    have e1 : (p : Int) + (((i + 1 : Nat) : Int) - 1) = ((p + i : Nat) : Int) := by omega
    have e2 : ((i + 1 : Nat) : Int) - 1 - 1 = (i : Int) - 1 := by omega
    have hx : ∀ K, run (iaS 1 (BS z b) (.int .i64 (p + i : Nat))) K = some (.ok (.elem [.int .u8 (b.getD (p + i) 0).toNat]) K) := fun K => by
      rw [u9r (by omega), Int.toNat_natCast, ubh hlt, unb hlt]
      rfl
    have hs := uzf hn56
    have ho := fix_or hn56 hc
    have hwp : IntKind.i64.wrap ((p + i : Nat) : Int) = ((p + i : Nat) : Int) := w_i64 (by omega)
    rw [u6g]
    simp +contextual -dsimp (disch := omega) only [↓goDown, goUp, cr, simprocAttr, c1, hH, e1, hwp, hx, u7j, hs, run_or, ho, e2, h1, fixN]
end Go.Proofs.YthidcpkcfoldmaaGreat.Pi.Q
namespace Go.Proofs.YthidcpkcfoldmaaGreat.Pi.Q
open Go Go.Proofs.YthidcpkcfoldmaaGreat.Pi
attribute [local congr] ite_congr
theorem uvo {b : List UInt8} {p k : Nat} : ∀ (i n : Nat), i ≤ k → n < 256 ^ (k - i) → fixN b p i n < 256 ^ k
  | 0, n, hi, hn => hn
  | i + 1, n, hi, hn => by
    have hc : (b.getD (p + i) 0).toNat < 256 := UInt8.toNat_lt _
    refine uvo i _ (by omega) ?_
    have e : k - i = (k - (i + 1)) + 1 := by omega
    rw [e, Nat.pow_succ]
    omega
theorem ueu {H : Heap} {b : List UInt8} {z : Bool} {p e k : Nat} (he : e ≤ b.length) (hb : b.length < 2 ^ 61) (hp : p ≤ e) (hk : k ≤ 8) :
    run (C u38 [.agg [BS z b, .int .i64 p, .int .i64 e], .int .i64 k]) H = some (.ok (retU (rdF b k e p)) H) := by
  rw [ud2]
  unfold rdF
  by_cases h : e < p + k
  · have c1 : ((e : Int) - (p : Int) < (k : Int)) = True := eq_true (by omega)
    rw [if_pos h]
    simp only [retU]
    simp +contextual -dsimp (disch := omega) only [↓goDown, goUp, cr, simprocAttr, c1] <;> rfl
  · have c1 : ((e : Int) - (p : Int) < (k : Int)) = False := eq_false (by omega)
    obtain ⟨H', h1, h2⟩ := uqo (H := hadd H [.cells [BS z b, .int .i64 p, .int .i64 e]]) (id := List.length H) (e := e) (v4 := .int .u64 0) (v5 := .int .i64 0) (v6 := .int .i64 0) (z := z) (k := k) (p := p) (by rw [u86]; rfl) hb (by omega) hk k 0 (Nat.le_refl _) (by simp)
    subst h2
    rw [if_neg h]
    simp only [retU]
    rw [show ((0 : Nat) : Int) = 0 from rfl] at h1
    simp +contextual -dsimp (disch := omega) only [↓goDown, goUp, cr, simprocAttr, c1, h1]
theorem usc {H : Heap} {b : List UInt8} {z : Bool} {p e : Nat} (he : e ≤ b.length) (hb : b.length < 2 ^ 61) (hp : p ≤ e) :
    run (C ue4 [.agg [BS z b, .int .i64 p, .int .i64 e]]) H = some (.ok (retU (rdF b 4 e p)) H) := by
  rw [urf]
  have h := ueu (H := hadd H [.cells [BS z b, .int .i64 p, .int .i64 e]]) (z := z) (p := p) (k := 4) he hb hp (by decide)
  have h : run (C u38 [.agg [BS z b, .int .i64 p, .int .i64 e], .int .i64 4]) (hadd H [.cells [BS z b, .int .i64 p, .int .i64 e]]) = _ := h
  cases hr : rdF b 4 e p <;> rw [hr] at h <;> simp only [retU] at h ⊢ <;>
    simp +contextual -dsimp (disch := omega) only [↓goDown, goUp, cr, simprocAttr, h]
theorem us3 {H : Heap} {b : List UInt8} {z : Bool} {p e : Nat} (he : e ≤ b.length) (hb : b.length < 2 ^ 61) (hp : p ≤ e) :
    run (C ue2 [.agg [BS z b, .int .i64 p, .int .i64 e]]) H = some (.ok (retU (rdF b 8 e p)) H) := by
  rw [ur6]
  have h := ueu (H := hadd H [.cells [BS z b, .int .i64 p, .int .i64 e]]) (z := z) (p := p) (k := 8) he hb hp (by decide)
  have h : run (C u38 [.agg [BS z b, .int .i64 p, .int .i64 e], .int .i64 8]) (hadd H [.cells [BS z b, .int .i64 p, .int .i64 e]]) = _ := h
  cases hr : rdF b 8 e p <;> rw [hr] at h <;> simp only [retU] at h ⊢ <;>
    simp +contextual -dsimp (disch := omega) only [↓goDown, goUp, cr, simprocAttr, h]
theorem rdF_lt {b : List UInt8} {k e p v q : Nat} (h : rdF b k e p = .ok v q) : v < 256 ^ k ∧ q = p + k ∧ q ≤ e := by
  unfold rdF at h
  split at h
  · cases h
  · cases h
    exact ⟨uvo k 0 (Nat.le_refl _) (by simp), rfl, by omega⟩
theorem us1 {H : Heap} {b : List UInt8} {z : Bool} {p e : Nat} (he : e ≤ b.length) (hb : b.length < 2 ^ 61) (hp : p ≤ e) :
    run (C u7c [BS z b, .int .i64 p, .int .i64 e]) H = some (.ok (retK .u32 (rdF b 4 e p)) H) := by
  have h1 : run (C u2k [BS z b, .int .i64 p, .int .i64 e, .fn ue4 [] []]) H = some (.ok (retK .u32 (rdF b 4 e p)) H) := by
    rw [u6t]
    have h := usc (H := hadd H [.cells [BS z b, .int .i64 p, .int .i64 e]]) (z := z) (p := p) he hb hp
    cases hr : rdF b 4 e p with
    | ok v q =>
      obtain ⟨hv, _⟩ := rdF_lt hr
      have hv : v < 4294967296 := hv
      rw [hr] at h
      simp only [retU, retK] at h ⊢
      simp +contextual -dsimp (disch := omega) only [↓goDown, goUp, cr, simprocAttr, h, u78 he hp]
    | err a w =>
      rw [hr] at h
      simp only [retU, retK] at h ⊢
      simp +contextual -dsimp (disch := omega) only [↓goDown, goUp, cr, simprocAttr, h, u78 he hp]
  rw [urq]
  cases hr : rdF b 4 e p <;> rw [hr] at h1 <;> simp only [retK] at h1 ⊢ <;>
    simp +contextual -dsimp (disch := omega) only [↓goDown, goUp, cr, simprocAttr, h1]
theorem us8 {H : Heap} {b : List UInt8} {z : Bool} {p e : Nat} (he : e ≤ b.length) (hb : b.length < 2 ^ 61) (hp : p ≤ e) :
    run (C u7f [BS z b, .int .i64 p, .int .i64 e]) H = some (.ok (retU (rdF b 8 e p)) H) := by
  have h1 : run (C u2h [BS z b, .int .i64 p, .int .i64 e, .fn ue2 [] []]) H = some (.ok (retU (rdF b 8 e p)) H) := by
    rw [u6j]
    have h := us3 (H := hadd H [.cells [BS z b, .int .i64 p, .int .i64 e]]) (z := z) (p := p) he hb hp
    cases hr : rdF b 8 e p <;> rw [hr] at h <;> simp only [retU] at h ⊢ <;>
      simp +contextual -dsimp (disch := omega) only [↓goDown, goUp, cr, simprocAttr, h, u78 he hp]
  rw [urh]
  cases hr : rdF b 8 e p <;> rw [hr] at h1 <;> simp only [retU] at h1 ⊢ <;>
    simp +contextual -dsimp (disch := omega) only [↓goDown, goUp, cr, simprocAttr, h1]
theorem uj6 {H : Heap} {b : List UInt8} {z : Bool} {p k : Nat} {v8 v9 v10 : PV} (hb : b.length < 2 ^ 61) (hp : p + k ≤ b.length) (hk : k ≤ 8) : ∀ (i n : Nat), i ≤ k → n < 256 ^ (k - i) →
    run (u35 (BS z b) (.int .i64 p) (.int .i64 k) v8 v9 v10 (.int .u64 n) (.int .i64 ((i : Int) - 1))) H = some (.ok (.tup [.int .u64 (fixN b p i n : Nat), .int .i64 (p + k : Nat), .int .i64 0]) H)
  | 0, n, hi, hn => by
    have c1 : ¬ (0 : Int) ≤ ((0 : Nat) : Int) - 1 := by omega
    have e1 : ((p : Nat) : Int) + (k : Int) = ((p + k : Nat) : Int) := by omega
    have hw : IntKind.i64.wrap ((p + k : Nat) : Int) = ((p + k : Nat) : Int) := w_i64 (by omega)
    rw [u5r]
    simp +contextual -dsimp (disch := omega) only [↓goDown, goUp, cr, simprocAttr, c1, e1, hw, fixN]
  | i + 1, n, hi, hn => by
    have c1 : (0 : Int) ≤ ((i + 1 : Nat) : Int) - 1 := by omega
    have hn56 : n < 2 ^ 56 := by
      have : (256 : Nat) ^ (k - (i + 1)) ≤ 256 ^ 7 := Nat.pow_le_pow_right (by decide) (by omega)
      have e : (256 : Nat) ^ 7 = 2 ^ 56 := by decide
      omega
    have hlt : p + i < b.length := by omega
    have hc : (b.getD (p + i) 0).toNat < 256 := UInt8.toNat_lt _
    have hnext : n * 256 + (b.getD (p + i) 0).toNat < 256 ^ (k - i) := by
      have e : k - i = (k - (i + 1)) + 1 := by omega
      rw [e, Nat.pow_succ]
      omega
    have h1 := uj6 (H := H) (z := z) (v8 := v8) (v9 := v9) (v10 := v10) hb hp hk i (n * 256 + (b.getD (p + i) 0).toNat) (by omega) hnext
    have e1 : (p : Int) + (((i + 1 : Nat) : Int) - 1) = ((p + i : Nat) : Int) := by omega
    have e2 : ((i + 1 : Nat) : Int) - 1 - 1 = (i : Int) - 1 := by omega
    have hx : ∀ K, run (iaS 1 (BS z b) (.int .i64 (p + i : Nat))) K = some (.ok (.elem [.int .u8 (b.getD (p + i) 0).toNat]) K) := fun K => by
      rw [u9r (by omega), Int.toNat_natCast, ubh hlt, unb hlt]
      rfl
    have hm : IntKind.u64.wrap (256 * (n : Int)) = ((n * 256 : Nat) : Int) := by rw [w_u64 (by omega)]; omega
    have hm2 : ((n * 256 : Nat) : Int) + (((b.getD (p + i) 0).toNat : Nat) : Int) = ((n * 256 + (b.getD (p + i) 0).toNat : Nat) : Int) := by omega
    have hm3 : IntKind.u64.wrap ((n * 256 + (b.getD (p + i) 0).toNat : Nat) : Int) = ((n * 256 + (b.getD (p + i) 0).toNat : Nat) : Int) := w_u64 (by omega)
    have hwp : IntKind.i64.wrap ((p + i : Nat) : Int) = ((p + i : Nat) : Int) := w_i64 (by omega)
    rw [u5r]
    simp +contextual -dsimp (disch := omega) only [↓goDown, goUp, cr, simprocAttr, c1, e1, hwp, hx, hm, hm2, hm3, e2, h1, fixN]
theorem uhj {H : Heap} {b : List UInt8} {z : Bool} {p e k : Nat} (he : e ≤ b.length) (hb : b.length < 2 ^ 61) (hp : p ≤ e) (hk : k ≤ 8) :
    run (C u1d [BS z b, .int .i64 p, .int .i64 e, .int .i64 k]) H = some (.ok (retU (rdF b k e p)) H) := by
  rw [ub8]
  unfold rdF
  by_cases h : e < p + k
  · have c1 : ((e : Int) - (p : Int) < (k : Int)) = True := eq_true (by omega)
    rw [if_pos h]
    simp only [retU]
    simp +contextual -dsimp (disch := omega) only [↓goDown, goUp, cr, simprocAttr, ufh he hp, un_not, c1] <;> rfl
  · have c1 : ((e : Int) - (p : Int) < (k : Int)) = False := eq_false (by omega)
    have h1 := uj6 (H := H) (z := z) (v8 := .int .u64 0) (v9 := .int .i64 0) (v10 := .int .i64 0) (p := p) (k := k) hb (by omega) hk k 0 (Nat.le_refl _) (by simp)
    rw [if_neg h]
    simp only [retU]
    rw [show ((0 : Nat) : Int) = 0 from rfl] at h1
    simp +contextual -dsimp (disch := omega) only [↓goDown, goUp, cr, simprocAttr, ufh he hp, un_not, c1, h1]
end Go.Proofs.YthidcpkcfoldmaaGreat.Pi.Q
namespace Go.Proofs.YthidcpkcfoldmaaGreat.Pi.Q
open Go Go.Proofs.YthidcpkcfoldmaaGreat.Pi
attribute [local congr] ite_congr
structure TS where
  p : Nat
  bad : Nat
  why : Nat
structure MC where
  m0 : PV
  m1 : PV
  m2 : PV
  m3 : PV
  m4 : PV
  m5 : PV
  m6 : PV
  m7 : PV
  m8 : PV
  m9 : PV
  m10 : PV
  m11 : PV
  m12 : PV
  m13 : PV
  m14 : PV
  m15 : PV
  m16 : PV
def tk {α : Type} (zero : α) (r : Nat → Rs α) (t : TS) : α × TS :=
  if t.why = 0 then (match r t.p with | .ok v q => (v, ⟨q, t.bad, 0⟩) | .err a w => (zero, ⟨t.p, a, w⟩)) else (zero, t)
variable {c : Nat} {H : Heap} {L : List Box} {b : List UInt8} {z : Bool} {p bad why : Nat} {m0 m1 m2 m3 m4 m5 m6 m7 m8 m9 m10 m11 m12 m13 m14 m15 m16 : PV}
theorem TS.eta {t : TS} : (⟨t.p, t.bad, t.why⟩ : TS) = t := nrfl rfl
theorem liftT {m : M PV} {bx bx' : Box} {v : PV} (h : ∀ H, c < List.length H → runK c m (St H c bx []) = some (.ok v (St H c bx' []))) (hc : c < List.length H) : runK c m (St H c bx L) = some (.ok v (St H c bx' L)) := by
  rw [u51 hc, u51 (x := bx') hc]
  exact h _ (by rw [u7l]; omega)
def flT (a w : Nat) (t : TS) : TS := if t.why = 0 ∧ w ≠ 0 then ⟨t.p, a, w⟩ else t
theorem ifailS {a w : Nat} (hc : c < List.length H) : runK c (C u0r [.ptr c 0, .int .i64 a, .int .i64 w]) (St H c (.cells [BS z b, .int .i64 p, m0, m1, m2, m3, m4, m5, m6, m7, m8, m9, m10, m11, m12, m13, m14, m15, m16, .int .i64 bad, .int .i64 why]) L) = some (.ok (.tup []) (St H c (.cells [BS z b, .int .i64 p, m0, m1, m2, m3, m4, m5, m6, m7, m8, m9, m10, m11, m12, m13, m14, m15, m16, .int .i64 (flT a w ⟨p, bad, why⟩).bad, .int .i64 (flT a w ⟨p, bad, why⟩).why]) L)) := liftT (fun H hc => by
  rw [uch]
  unfold flT
  by_cases h1 : why = 0
  · subst h1
    have e0 : ((0 : Nat) : Int) = 0 := rfl
    by_cases h2 : w = 0
    · subst h2
      simp +contextual -dsimp (disch := omega) only [↓kDown, kUp, ↓goDown, goUp, cr, simprocAttr, e0, and_false]
    · have h2' : ((w : Nat) : Int) ≠ 0 := by omega
      have h3 : ((w : Nat) : Int) = 0 ↔ False := by simp; omega
      simp +contextual -dsimp (disch := omega) only [↓kDown, kUp, ↓goDown, goUp, cr, simprocAttr, e0, h2, h3, not_false_eq_true, and_self, true_and]
  · have h1' : ((why : Nat) : Int) = 0 ↔ False := by simp; omega
    simp +contextual -dsimp (disch := omega) only [↓kDown, kUp, ↓goDown, goUp, cr, simprocAttr, h1, h1', false_and]) hc
end Go.Proofs.YthidcpkcfoldmaaGreat.Pi.Q
namespace Go.Proofs.YthidcpkcfoldmaaGreat.Pi.Q
open Go Go.Proofs.YthidcpkcfoldmaaGreat.Pi
attribute [local congr] ite_congr
variable {c : Nat} {H : Heap} {L : List Box} {b : List UInt8} {z : Bool} {p bad why : Nat} {m0 m1 m2 m3 m4 m5 m6 m7 m8 m9 m10 m11 m12 m13 m14 m15 m16 : PV}
theorem uf1 {f : PV} {r : Nat → Rs Nat} (hf : strip f = f) (hw : ∀ a w, r p = .err a w → w ≠ 0) (hc : c < List.length H)
    (h1 : ∀ v q, r p = .ok v q → run (callV P C f [BS z b, .int .i64 p]) (St H c (.cells [BS z b, .int .i64 p, m0, m1, m2, m3, m4, m5, m6, m7, m8, m9, m10, m11, m12, m13, m14, m15, m16, .int .i64 bad, .int .i64 why]) []) = some (.ok (.tup [.int .u32 (v : Nat), .int .i64 q, .int .i64 0]) (St H c (.cells [BS z b, .int .i64 p, m0, m1, m2, m3, m4, m5, m6, m7, m8, m9, m10, m11, m12, m13, m14, m15, m16, .int .i64 bad, .int .i64 why]) [])))
    (h2 : ∀ a w, r p = .err a w → run (callV P C f [BS z b, .int .i64 p]) (St H c (.cells [BS z b, .int .i64 p, m0, m1, m2, m3, m4, m5, m6, m7, m8, m9, m10, m11, m12, m13, m14, m15, m16, .int .i64 bad, .int .i64 why]) []) = some (.ok (.tup [.int .u32 0, .int .i64 a, .int .i64 w]) (St H c (.cells [BS z b, .int .i64 p, m0, m1, m2, m3, m4, m5, m6, m7, m8, m9, m10, m11, m12, m13, m14, m15, m16, .int .i64 bad, .int .i64 why]) []))) :
    runK c (C u3r [.ptr c 0, f]) (St H c (.cells [BS z b, .int .i64 p, m0, m1, m2, m3, m4, m5, m6, m7, m8, m9, m10, m11, m12, m13, m14, m15, m16, .int .i64 bad, .int .i64 why]) []) = some (.ok (.int .u32 ((tk (0 : Nat) r ⟨p, bad, why⟩).1 : Nat)) (St H c (.cells [BS z b, .int .i64 ((tk (0 : Nat) r ⟨p, bad, why⟩).2.p : Nat), m0, m1, m2, m3, m4, m5, m6, m7, m8, m9, m10, m11, m12, m13, m14, m15, m16, .int .i64 ((tk (0 : Nat) r ⟨p, bad, why⟩).2.bad : Nat), .int .i64 ((tk (0 : Nat) r ⟨p, bad, why⟩).2.why : Nat)]) [])) := by
  rw [ucc]
  unfold tk
  simp only
  have e0 : ((0 : Nat) : Int) = 0 := rfl
  by_cases hy : why = 0
  · subst hy
    cases hr : r p with
    | ok v q =>
      have h := h1 v q hr
      rw [e0] at h
      simp only [↓reduceIte]
      simp +contextual -dsimp (disch := omega) only [↓kDown, kUp, ↓goDown, goUp, cr, simprocAttr, e0, hf, h] <;> rfl
    | err a w =>
      have h := h2 a w hr
      have hw' : ((w : Nat) : Int) = 0 ↔ False := by have := hw a w hr; simp; omega
      rw [e0] at h
      have hfl := fun L => ifailS (c := c) (H := H) (L := L) (b := b) (z := z) (p := p) (bad := bad) (why := 0) (a := a) (w := w) (m0 := m0) (m1 := m1) (m2 := m2) (m3 := m3) (m4 := m4) (m5 := m5) (m6 := m6) (m7 := m7) (m8 := m8) (m9 := m9) (m10 := m10) (m11 := m11) (m12 := m12) (m13 := m13) (m14 := m14) (m15 := m15) (m16 := m16) hc
      have f1 : (flT a w ⟨p, bad, 0⟩).bad = a := by unfold flT; rw [if_pos ⟨rfl, hw a w hr⟩]
      have f2 : (flT a w ⟨p, bad, 0⟩).why = w := by unfold flT; rw [if_pos ⟨rfl, hw a w hr⟩]
      rw [f1, f2, e0] at hfl
      simp only [↓reduceIte]
      simp +contextual -dsimp (disch := omega) only [↓kDown, kUp, ↓goDown, goUp, cr, simprocAttr, e0, hf, h, hw', hfl] <;> rfl
  · have hy' : ((why : Nat) : Int) = 0 ↔ False := by simp; omega
    simp only [if_neg hy]
    simp +contextual -dsimp (disch := omega) only [↓kDown, kUp, ↓goDown, goUp, cr, simprocAttr, hy'] <;> rfl
theorem ues {f : PV} {r : Nat → Rs Nat} (hf : strip f = f) (hw : ∀ a w, r p = .err a w → w ≠ 0) (hc : c < List.length H)
    (h1 : ∀ v q, r p = .ok v q → run (callV P C f [BS z b, .int .i64 p]) (St H c (.cells [BS z b, .int .i64 p, m0, m1, m2, m3, m4, m5, m6, m7, m8, m9, m10, m11, m12, m13, m14, m15, m16, .int .i64 bad, .int .i64 why]) []) = some (.ok (.tup [.int .u64 (v : Nat), .int .i64 q, .int .i64 0]) (St H c (.cells [BS z b, .int .i64 p, m0, m1, m2, m3, m4, m5, m6, m7, m8, m9, m10, m11, m12, m13, m14, m15, m16, .int .i64 bad, .int .i64 why]) [])))
    (h2 : ∀ a w, r p = .err a w → run (callV P C f [BS z b, .int .i64 p]) (St H c (.cells [BS z b, .int .i64 p, m0, m1, m2, m3, m4, m5, m6, m7, m8, m9, m10, m11, m12, m13, m14, m15, m16, .int .i64 bad, .int .i64 why]) []) = some (.ok (.tup [.int .u64 0, .int .i64 a, .int .i64 w]) (St H c (.cells [BS z b, .int .i64 p, m0, m1, m2, m3, m4, m5, m6, m7, m8, m9, m10, m11, m12, m13, m14, m15, m16, .int .i64 bad, .int .i64 why]) []))) :
    runK c (C u3q [.ptr c 0, f]) (St H c (.cells [BS z b, .int .i64 p, m0, m1, m2, m3, m4, m5, m6, m7, m8, m9, m10, m11, m12, m13, m14, m15, m16, .int .i64 bad, .int .i64 why]) []) = some (.ok (.int .u64 ((tk (0 : Nat) r ⟨p, bad, why⟩).1 : Nat)) (St H c (.cells [BS z b, .int .i64 ((tk (0 : Nat) r ⟨p, bad, why⟩).2.p : Nat), m0, m1, m2, m3, m4, m5, m6, m7, m8, m9, m10, m11, m12, m13, m14, m15, m16, .int .i64 ((tk (0 : Nat) r ⟨p, bad, why⟩).2.bad : Nat), .int .i64 ((tk (0 : Nat) r ⟨p, bad, why⟩).2.why : Nat)]) [])) := by
  rw [uc2]
  unfold tk
  simp only
  have e0 : ((0 : Nat) : Int) = 0 := rfl
  by_cases hy : why = 0
  · subst hy
    cases hr : r p with
    | ok v q =>
      have h := h1 v q hr
      rw [e0] at h
      simp only [↓reduceIte]
      simp +contextual -dsimp (disch := omega) only [↓kDown, kUp, ↓goDown, goUp, cr, simprocAttr, e0, hf, h] <;> rfl
    | err a w =>
      have h := h2 a w hr
      have hw' : ((w : Nat) : Int) = 0 ↔ False := by have := hw a w hr; simp; omega
      rw [e0] at h
      have hfl := fun L => ifailS (c := c) (H := H) (L := L) (b := b) (z := z) (p := p) (bad := bad) (why := 0) (a := a) (w := w) (m0 := m0) (m1 := m1) (m2 := m2) (m3 := m3) (m4 := m4) (m5 := m5) (m6 := m6) (m7 := m7) (m8 := m8) (m9 := m9) (m10 := m10) (m11 := m11) (m12 := m12) (m13 := m13) (m14 := m14) (m15 := m15) (m16 := m16) hc
      have f1 : (flT a w ⟨p, bad, 0⟩).bad = a := by unfold flT; rw [if_pos ⟨rfl, hw a w hr⟩]
      have f2 : (flT a w ⟨p, bad, 0⟩).why = w := by unfold flT; rw [if_pos ⟨rfl, hw a w hr⟩]
      rw [f1, f2, e0] at hfl
      simp only [↓reduceIte]
      simp +contextual -dsimp (disch := omega) only [↓kDown, kUp, ↓goDown, goUp, cr, simprocAttr, e0, hf, h, hw', hfl] <;> rfl
  · have hy' : ((why : Nat) : Int) = 0 ↔ False := by simp; omega
    simp only [if_neg hy]
    simp +contextual -dsimp (disch := omega) only [↓kDown, kUp, ↓goDown, goUp, cr, simprocAttr, hy'] <;> rfl
theorem unk {f : PV} {r : Nat → Rs Int} (hf : strip f = f) (hw : ∀ a w, r p = .err a w → w ≠ 0) (hc : c < List.length H)
    (h1 : ∀ v q, r p = .ok v q → run (callV P C f [BS z b, .int .i64 p]) (St H c (.cells [BS z b, .int .i64 p, m0, m1, m2, m3, m4, m5, m6, m7, m8, m9, m10, m11, m12, m13, m14, m15, m16, .int .i64 bad, .int .i64 why]) []) = some (.ok (.tup [.int .i32 (IntKind.i32.wrap v), .int .i64 q, .int .i64 0]) (St H c (.cells [BS z b, .int .i64 p, m0, m1, m2, m3, m4, m5, m6, m7, m8, m9, m10, m11, m12, m13, m14, m15, m16, .int .i64 bad, .int .i64 why]) [])))
    (h2 : ∀ a w, r p = .err a w → run (callV P C f [BS z b, .int .i64 p]) (St H c (.cells [BS z b, .int .i64 p, m0, m1, m2, m3, m4, m5, m6, m7, m8, m9, m10, m11, m12, m13, m14, m15, m16, .int .i64 bad, .int .i64 why]) []) = some (.ok (.tup [.int .i32 0, .int .i64 a, .int .i64 w]) (St H c (.cells [BS z b, .int .i64 p, m0, m1, m2, m3, m4, m5, m6, m7, m8, m9, m10, m11, m12, m13, m14, m15, m16, .int .i64 bad, .int .i64 why]) []))) :
    runK c (C u6d [.ptr c 0, f]) (St H c (.cells [BS z b, .int .i64 p, m0, m1, m2, m3, m4, m5, m6, m7, m8, m9, m10, m11, m12, m13, m14, m15, m16, .int .i64 bad, .int .i64 why]) []) = some (.ok (.int .i32 (IntKind.i32.wrap (tk (0 : Int) r ⟨p, bad, why⟩).1)) (St H c (.cells [BS z b, .int .i64 ((tk (0 : Int) r ⟨p, bad, why⟩).2.p : Nat), m0, m1, m2, m3, m4, m5, m6, m7, m8, m9, m10, m11, m12, m13, m14, m15, m16, .int .i64 ((tk (0 : Int) r ⟨p, bad, why⟩).2.bad : Nat), .int .i64 ((tk (0 : Int) r ⟨p, bad, why⟩).2.why : Nat)]) [])) := by
  rw [udb]
  unfold tk
  simp only
  have e0 : ((0 : Nat) : Int) = 0 := rfl
  have w0 : IntKind.i32.wrap 0 = 0 := by decide
  by_cases hy : why = 0
  · subst hy
    cases hr : r p with
    | ok v q =>
      have h := h1 v q hr
      rw [e0] at h
      simp only [↓reduceIte]
      simp +contextual -dsimp (disch := omega) only [↓kDown, kUp, ↓goDown, goUp, cr, simprocAttr, e0, hf, h] <;> rfl
    | err a w =>
      have h := h2 a w hr
      have hw' : ((w : Nat) : Int) = 0 ↔ False := by have := hw a w hr; simp; omega
      rw [e0] at h
      have hfl := fun L => ifailS (c := c) (H := H) (L := L) (b := b) (z := z) (p := p) (bad := bad) (why := 0) (a := a) (w := w) (m0 := m0) (m1 := m1) (m2 := m2) (m3 := m3) (m4 := m4) (m5 := m5) (m6 := m6) (m7 := m7) (m8 := m8) (m9 := m9) (m10 := m10) (m11 := m11) (m12 := m12) (m13 := m13) (m14 := m14) (m15 := m15) (m16 := m16) hc
      have f1 : (flT a w ⟨p, bad, 0⟩).bad = a := by unfold flT; rw [if_pos ⟨rfl, hw a w hr⟩]
      have f2 : (flT a w ⟨p, bad, 0⟩).why = w := by unfold flT; rw [if_pos ⟨rfl, hw a w hr⟩]
      rw [f1, f2, e0] at hfl
      simp only [↓reduceIte]
      simp +contextual -dsimp (disch := omega) only [↓kDown, kUp, ↓goDown, goUp, cr, simprocAttr, e0, hf, h, hw', hfl, w0] <;> rfl
  · have hy' : ((why : Nat) : Int) = 0 ↔ False := by simp; omega
    simp only [if_neg hy]
    simp +contextual -dsimp (disch := omega) only [↓kDown, kUp, ↓goDown, goUp, cr, simprocAttr, hy', w0] <;> rfl
theorem uns {f : PV} {r : Nat → Rs Int} (hf : strip f = f) (hw : ∀ a w, r p = .err a w → w ≠ 0) (hc : c < List.length H)
    (h1 : ∀ v q, r p = .ok v q → run (callV P C f [BS z b, .int .i64 p]) (St H c (.cells [BS z b, .int .i64 p, m0, m1, m2, m3, m4, m5, m6, m7, m8, m9, m10, m11, m12, m13, m14, m15, m16, .int .i64 bad, .int .i64 why]) []) = some (.ok (.tup [.int .i64 v, .int .i64 q, .int .i64 0]) (St H c (.cells [BS z b, .int .i64 p, m0, m1, m2, m3, m4, m5, m6, m7, m8, m9, m10, m11, m12, m13, m14, m15, m16, .int .i64 bad, .int .i64 why]) [])))
    (h2 : ∀ a w, r p = .err a w → run (callV P C f [BS z b, .int .i64 p]) (St H c (.cells [BS z b, .int .i64 p, m0, m1, m2, m3, m4, m5, m6, m7, m8, m9, m10, m11, m12, m13, m14, m15, m16, .int .i64 bad, .int .i64 why]) []) = some (.ok (.tup [.int .i64 0, .int .i64 a, .int .i64 w]) (St H c (.cells [BS z b, .int .i64 p, m0, m1, m2, m3, m4, m5, m6, m7, m8, m9, m10, m11, m12, m13, m14, m15, m16, .int .i64 bad, .int .i64 why]) []))) :
    runK c (C u6e [.ptr c 0, f]) (St H c (.cells [BS z b, .int .i64 p, m0, m1, m2, m3, m4, m5, m6, m7, m8, m9, m10, m11, m12, m13, m14, m15, m16, .int .i64 bad, .int .i64 why]) []) = some (.ok (.int .i64 (tk (0 : Int) r ⟨p, bad, why⟩).1) (St H c (.cells [BS z b, .int .i64 ((tk (0 : Int) r ⟨p, bad, why⟩).2.p : Nat), m0, m1, m2, m3, m4, m5, m6, m7, m8, m9, m10, m11, m12, m13, m14, m15, m16, .int .i64 ((tk (0 : Int) r ⟨p, bad, why⟩).2.bad : Nat), .int .i64 ((tk (0 : Int) r ⟨p, bad, why⟩).2.why : Nat)]) [])) := by
  rw [ucr]
  unfold tk
  simp only
  have e0 : ((0 : Nat) : Int) = 0 := rfl
  by_cases hy : why = 0
  · subst hy
    cases hr : r p with
    | ok v q =>
      have h := h1 v q hr
      rw [e0] at h
      simp only [↓reduceIte]
      simp +contextual -dsimp (disch := omega) only [↓kDown, kUp, ↓goDown, goUp, cr, simprocAttr, e0, hf, h] <;> rfl
    | err a w =>
      have h := h2 a w hr
      have hw' : ((w : Nat) : Int) = 0 ↔ False := by have := hw a w hr; simp; omega
      rw [e0] at h
      have hfl := fun L => ifailS (c := c) (H := H) (L := L) (b := b) (z := z) (p := p) (bad := bad) (why := 0) (a := a) (w := w) (m0 := m0) (m1 := m1) (m2 := m2) (m3 := m3) (m4 := m4) (m5 := m5) (m6 := m6) (m7 := m7) (m8 := m8) (m9 := m9) (m10 := m10) (m11 := m11) (m12 := m12) (m13 := m13) (m14 := m14) (m15 := m15) (m16 := m16) hc
      have f1 : (flT a w ⟨p, bad, 0⟩).bad = a := by unfold flT; rw [if_pos ⟨rfl, hw a w hr⟩]
      have f2 : (flT a w ⟨p, bad, 0⟩).why = w := by unfold flT; rw [if_pos ⟨rfl, hw a w hr⟩]
      rw [f1, f2, e0] at hfl
      simp only [↓reduceIte]
      simp +contextual -dsimp (disch := omega) only [↓kDown, kUp, ↓goDown, goUp, cr, simprocAttr, e0, hf, h, hw', hfl] <;> rfl
  · have hy' : ((why : Nat) : Int) = 0 ↔ False := by simp; omega
    simp only [if_neg hy]
    simp +contextual -dsimp (disch := omega) only [↓kDown, kUp, ↓goDown, goUp, cr, simprocAttr, hy'] <;> rfl
theorem uum {f : PV} {r : Nat → Rs Int} (hf : strip f = f) (hw : ∀ a w, r p = .err a w → w ≠ 0) (hc : c < List.length H)
    (h1 : ∀ v q, r p = .ok v q → run (callV P C f [BS z b, .int .i64 p]) (St H c (.cells [BS z b, .int .i64 p, m0, m1, m2, m3, m4, m5, m6, m7, m8, m9, m10, m11, m12, m13, m14, m15, m16, .int .i64 bad, .int .i64 why]) []) = some (.ok (.tup [.int .i64 v, .int .i64 q, .int .i64 0]) (St H c (.cells [BS z b, .int .i64 p, m0, m1, m2, m3, m4, m5, m6, m7, m8, m9, m10, m11, m12, m13, m14, m15, m16, .int .i64 bad, .int .i64 why]) [])))
    (h2 : ∀ a w, r p = .err a w → run (callV P C f [BS z b, .int .i64 p]) (St H c (.cells [BS z b, .int .i64 p, m0, m1, m2, m3, m4, m5, m6, m7, m8, m9, m10, m11, m12, m13, m14, m15, m16, .int .i64 bad, .int .i64 why]) []) = some (.ok (.tup [.int .i64 0, .int .i64 a, .int .i64 w]) (St H c (.cells [BS z b, .int .i64 p, m0, m1, m2, m3, m4, m5, m6, m7, m8, m9, m10, m11, m12, m13, m14, m15, m16, .int .i64 bad, .int .i64 why]) []))) :
    runK c (C u8f [.ptr c 0, f]) (St H c (.cells [BS z b, .int .i64 p, m0, m1, m2, m3, m4, m5, m6, m7, m8, m9, m10, m11, m12, m13, m14, m15, m16, .int .i64 bad, .int .i64 why]) []) = some (.ok (.int .i64 (tk (0 : Int) r ⟨p, bad, why⟩).1) (St H c (.cells [BS z b, .int .i64 ((tk (0 : Int) r ⟨p, bad, why⟩).2.p : Nat), m0, m1, m2, m3, m4, m5, m6, m7, m8, m9, m10, m11, m12, m13, m14, m15, m16, .int .i64 ((tk (0 : Int) r ⟨p, bad, why⟩).2.bad : Nat), .int .i64 ((tk (0 : Int) r ⟨p, bad, why⟩).2.why : Nat)]) [])) := by
  rw [ueg]
  unfold tk
  simp only
  have e0 : ((0 : Nat) : Int) = 0 := rfl
  by_cases hy : why = 0
  · subst hy
    cases hr : r p with
    | ok v q =>
      have h := h1 v q hr
      rw [e0] at h
      simp only [↓reduceIte]
      simp +contextual -dsimp (disch := omega) only [↓kDown, kUp, ↓goDown, goUp, cr, simprocAttr, e0, hf, h] <;> rfl
    | err a w =>
      have h := h2 a w hr
      have hw' : ((w : Nat) : Int) = 0 ↔ False := by have := hw a w hr; simp; omega
      rw [e0] at h
      have hfl := fun L => ifailS (c := c) (H := H) (L := L) (b := b) (z := z) (p := p) (bad := bad) (why := 0) (a := a) (w := w) (m0 := m0) (m1 := m1) (m2 := m2) (m3 := m3) (m4 := m4) (m5 := m5) (m6 := m6) (m7 := m7) (m8 := m8) (m9 := m9) (m10 := m10) (m11 := m11) (m12 := m12) (m13 := m13) (m14 := m14) (m15 := m15) (m16 := m16) hc
      have f1 : (flT a w ⟨p, bad, 0⟩).bad = a := by unfold flT; rw [if_pos ⟨rfl, hw a w hr⟩]
      have f2 : (flT a w ⟨p, bad, 0⟩).why = w := by unfold flT; rw [if_pos ⟨rfl, hw a w hr⟩]
      rw [f1, f2, e0] at hfl
      simp only [↓reduceIte]
      simp +contextual -dsimp (disch := omega) only [↓kDown, kUp, ↓goDown, goUp, cr, simprocAttr, e0, hf, h, hw', hfl] <;> rfl
  · have hy' : ((why : Nat) : Int) = 0 ↔ False := by simp; omega
    simp only [if_neg hy]
    simp +contextual -dsimp (disch := omega) only [↓kDown, kUp, ↓goDown, goUp, cr, simprocAttr, hy'] <;> rfl
theorem ue6 {f : PV} {r : Nat → Rs VT} (hf : strip f = f) (hw : ∀ a w, r p = .err a w → w ≠ 0) (hc : c < List.length H)
    (h1 : ∀ (K : Heap) v q, r p = .ok v q → run (callV P C f [BS z b, .int .i64 p]) K = some (.ok (.tup [.agg [.int .i64 (v).num, .bool (v).nul, .int .i64 (v).heap], .int .i64 q, .int .i64 0]) K))
    (h2 : ∀ (K : Heap) a w, r p = .err a w → run (callV P C f [BS z b, .int .i64 p]) K = some (.ok (.tup [.agg [.int .i64 0, .bool false, .int .i64 0], .int .i64 a, .int .i64 w]) K)) :
    runK c (C u28 [.ptr c 0, f]) (St H c (.cells [BS z b, .int .i64 p, m0, m1, m2, m3, m4, m5, m6, m7, m8, m9, m10, m11, m12, m13, m14, m15, m16, .int .i64 bad, .int .i64 why]) []) = some (.ok (.agg [.int .i64 ((tk (⟨0, false, 0⟩ : VT) r ⟨p, bad, why⟩).1).num, .bool ((tk (⟨0, false, 0⟩ : VT) r ⟨p, bad, why⟩).1).nul, .int .i64 ((tk (⟨0, false, 0⟩ : VT) r ⟨p, bad, why⟩).1).heap]) (St H c (.cells [BS z b, .int .i64 ((tk (⟨0, false, 0⟩ : VT) r ⟨p, bad, why⟩).2.p : Nat), m0, m1, m2, m3, m4, m5, m6, m7, m8, m9, m10, m11, m12, m13, m14, m15, m16, .int .i64 ((tk (⟨0, false, 0⟩ : VT) r ⟨p, bad, why⟩).2.bad : Nat), .int .i64 ((tk (⟨0, false, 0⟩ : VT) r ⟨p, bad, why⟩).2.why : Nat)]) [])) := by
  rw [u9k]
  unfold tk
  simp only
  have e0 : ((0 : Nat) : Int) = 0 := rfl
  by_cases hy : why = 0
  · subst hy
    cases hr : r p with
    | ok v q =>
      have h := fun K => h1 K v q hr
      simp only [↓reduceIte]
      simp +contextual -dsimp (disch := omega) only [↓kDown, kUp, ↓goDown, goUp, cr, simprocAttr, e0, hf, h] <;> rfl
    | err a w =>
      have h := fun K => h2 K a w hr
      have hw' : ((w : Nat) : Int) = 0 ↔ False := by have := hw a w hr; simp; omega
      have hfl := fun L => ifailS (c := c) (H := H) (L := L) (b := b) (z := z) (p := p) (bad := bad) (why := 0) (a := a) (w := w) (m0 := m0) (m1 := m1) (m2 := m2) (m3 := m3) (m4 := m4) (m5 := m5) (m6 := m6) (m7 := m7) (m8 := m8) (m9 := m9) (m10 := m10) (m11 := m11) (m12 := m12) (m13 := m13) (m14 := m14) (m15 := m15) (m16 := m16) hc
      have f1 : (flT a w ⟨p, bad, 0⟩).bad = a := by unfold flT; rw [if_pos ⟨rfl, hw a w hr⟩]
      have f2 : (flT a w ⟨p, bad, 0⟩).why = w := by unfold flT; rw [if_pos ⟨rfl, hw a w hr⟩]
      rw [f1, f2, e0] at hfl
      simp only [↓reduceIte]
      simp +contextual -dsimp (disch := omega) only [↓kDown, kUp, ↓goDown, goUp, cr, simprocAttr, e0, hf, h, hw', hfl] <;> rfl
  · have hy' : ((why : Nat) : Int) = 0 ↔ False := by simp; omega
    simp only [if_neg hy]
    simp +contextual -dsimp (disch := omega) only [↓kDown, kUp, ↓goDown, goUp, cr, simprocAttr, hy'] <;> rfl
theorem ugt {f : PV} {r : Nat → Rs BK} (hf : strip f = f) (hw : ∀ a w, r p = .err a w → w ≠ 0) (hc : c < List.length H)
    (h1 : ∀ (K : Heap) v q, r p = .ok v q → run (callV P C f [BS z b, .int .i64 p]) K = some (.ok (.tup [.agg [.int .i64 (v).ty, .int .i64 (v).res.num, .bool (v).res.nul, .int .i64 (v).res.heap], .int .i64 q, .int .i64 0]) K))
    (h2 : ∀ (K : Heap) a w, r p = .err a w → run (callV P C f [BS z b, .int .i64 p]) K = some (.ok (.tup [.agg [.int .i64 0, .int .i64 0, .bool false, .int .i64 0], .int .i64 a, .int .i64 w]) K)) :
    runK c (C u69 [.ptr c 0, f]) (St H c (.cells [BS z b, .int .i64 p, m0, m1, m2, m3, m4, m5, m6, m7, m8, m9, m10, m11, m12, m13, m14, m15, m16, .int .i64 bad, .int .i64 why]) []) = some (.ok (.agg [.int .i64 ((tk (⟨0, ⟨0, false, 0⟩⟩ : BK) r ⟨p, bad, why⟩).1).ty, .int .i64 ((tk (⟨0, ⟨0, false, 0⟩⟩ : BK) r ⟨p, bad, why⟩).1).res.num, .bool ((tk (⟨0, ⟨0, false, 0⟩⟩ : BK) r ⟨p, bad, why⟩).1).res.nul, .int .i64 ((tk (⟨0, ⟨0, false, 0⟩⟩ : BK) r ⟨p, bad, why⟩).1).res.heap]) (St H c (.cells [BS z b, .int .i64 ((tk (⟨0, ⟨0, false, 0⟩⟩ : BK) r ⟨p, bad, why⟩).2.p : Nat), m0, m1, m2, m3, m4, m5, m6, m7, m8, m9, m10, m11, m12, m13, m14, m15, m16, .int .i64 ((tk (⟨0, ⟨0, false, 0⟩⟩ : BK) r ⟨p, bad, why⟩).2.bad : Nat), .int .i64 ((tk (⟨0, ⟨0, false, 0⟩⟩ : BK) r ⟨p, bad, why⟩).2.why : Nat)]) [])) := by
  rw [uaa]
  unfold tk
  simp only
  have e0 : ((0 : Nat) : Int) = 0 := rfl
  by_cases hy : why = 0
  · subst hy
    cases hr : r p with
    | ok v q =>
      have h := fun K => h1 K v q hr
      simp only [↓reduceIte]
      simp +contextual -dsimp (disch := omega) only [↓kDown, kUp, ↓goDown, goUp, cr, simprocAttr, e0, hf, h] <;> rfl
    | err a w =>
      have h := fun K => h2 K a w hr
      have hw' : ((w : Nat) : Int) = 0 ↔ False := by have := hw a w hr; simp; omega
      have hfl := fun L => ifailS (c := c) (H := H) (L := L) (b := b) (z := z) (p := p) (bad := bad) (why := 0) (a := a) (w := w) (m0 := m0) (m1 := m1) (m2 := m2) (m3 := m3) (m4 := m4) (m5 := m5) (m6 := m6) (m7 := m7) (m8 := m8) (m9 := m9) (m10 := m10) (m11 := m11) (m12 := m12) (m13 := m13) (m14 := m14) (m15 := m15) (m16 := m16) hc
      have f1 : (flT a w ⟨p, bad, 0⟩).bad = a := by unfold flT; rw [if_pos ⟨rfl, hw a w hr⟩]
      have f2 : (flT a w ⟨p, bad, 0⟩).why = w := by unfold flT; rw [if_pos ⟨rfl, hw a w hr⟩]
      rw [f1, f2, e0] at hfl
      simp only [↓reduceIte]
      simp +contextual -dsimp (disch := omega) only [↓kDown, kUp, ↓goDown, goUp, cr, simprocAttr, e0, hf, h, hw', hfl] <;> rfl
  · have hy' : ((why : Nat) : Int) = 0 ↔ False := by simp; omega
    simp only [if_neg hy]
    simp +contextual -dsimp (disch := omega) only [↓kDown, kUp, ↓goDown, goUp, cr, simprocAttr, hy'] <;> rfl
end Go.Proofs.YthidcpkcfoldmaaGreat.Pi.Q
namespace Go.Proofs.YthidcpkcfoldmaaGreat.Pi.Q
open Go Go.Proofs.YthidcpkcfoldmaaGreat.Pi
attribute [local congr] ite_congr
variable {c : Nat} {H : Heap} {L : List Box} {b : List UInt8} {z : Bool} {p bad why : Nat} {m0 m1 m2 m3 m4 m5 m6 m7 m8 m9 m10 m11 m12 m13 m14 m15 m16 : PV}
theorem uho {b : List UInt8} {k e p a w : Nat} (h : rdF b k e p = .err a w) : w ≠ 0 := by
  unfold rdF at h
  split at h <;> cases h
  decide
theorem ubp {g : FuncId} {j : Nat} {K : Heap} {v : Int} {q w : Nat} (hj : hget K j = some (.cells [.fn g [] []])) (hg : ∀ K, run (C g [BS z b, .int .i64 p, .int .i64 b.length]) K = some (.ok (.tup [.int .u32 v, .int .i64 q, .int .i64 w]) K)) :
    run (C u19 [BS z b, .int .i64 p, .ptr j 0]) K = some (.ok (.tup [.int .u32 v, .int .i64 q, .int .i64 w]) K) := by
  rw [u9m]
  simp +contextual -dsimp (disch := omega) only [↓goDown, goUp, cr, simprocAttr, hj, List.length_map, hg]
theorem ubm {g : FuncId} {j : Nat} {K : Heap} {v : Int} {q w : Nat} (hj : hget K j = some (.cells [.fn g [] []])) (hg : ∀ K, run (C g [BS z b, .int .i64 p, .int .i64 b.length]) K = some (.ok (.tup [.int .u64 v, .int .i64 q, .int .i64 w]) K)) :
    run (C u1b [BS z b, .int .i64 p, .ptr j 0]) K = some (.ok (.tup [.int .u64 v, .int .i64 q, .int .i64 w]) K) := by
  rw [u9t]
  simp +contextual -dsimp (disch := omega) only [↓goDown, goUp, cr, simprocAttr, hj, List.length_map, hg]
theorem uky {g : FuncId} {j : Nat} {K : Heap} {v : Int} {q w : Nat} (hj : hget K j = some (.cells [.fn g [] []])) (hg : ∀ K, run (C g [BS z b, .int .i64 p, .int .i64 b.length]) K = some (.ok (.tup [.int .i32 v, .int .i64 q, .int .i64 w]) K)) :
    run (C u2f [BS z b, .int .i64 p, .ptr j 0]) K = some (.ok (.tup [.int .i32 v, .int .i64 q, .int .i64 w]) K) := by
  rw [ua2]
  simp +contextual -dsimp (disch := omega) only [↓goDown, goUp, cr, simprocAttr, hj, List.length_map, hg]
theorem umx {g : FuncId} {j : Nat} {K : Heap} {v : Int} {q w : Nat} (hj : hget K j = some (.cells [.fn g [] []])) (hg : ∀ K, run (C g [BS z b, .int .i64 p, .int .i64 b.length]) K = some (.ok (.tup [.int .i64 v, .int .i64 q, .int .i64 w]) K)) :
    run (C u2g [BS z b, .int .i64 p, .ptr j 0]) K = some (.ok (.tup [.int .i64 v, .int .i64 q, .int .i64 w]) K) := by
  rw [u9z]
  simp +contextual -dsimp (disch := omega) only [↓goDown, goUp, cr, simprocAttr, hj, List.length_map, hg]
theorem ux4 (hb : b.length < 2 ^ 61) (hp : p ≤ b.length) (hc : c < List.length H) :
    runK c (C u3r [.ptr c 0, .fn u19 [] [.ptr (List.length H) 0]]) (St H c (.cells [BS z b, .int .i64 p, m0, m1, m2, m3, m4, m5, m6, m7, m8, m9, m10, m11, m12, m13, m14, m15, m16, .int .i64 bad, .int .i64 why]) [.cells [.fn u7a [] []]]) = some (.ok (.int .u32 ((tk (0 : Nat) (rdU b 32 b.length) ⟨p, bad, why⟩).1 : Nat)) (St H c (.cells [BS z b, .int .i64 ((tk (0 : Nat) (rdU b 32 b.length) ⟨p, bad, why⟩).2.p : Nat), m0, m1, m2, m3, m4, m5, m6, m7, m8, m9, m10, m11, m12, m13, m14, m15, m16, .int .i64 ((tk (0 : Nat) (rdU b 32 b.length) ⟨p, bad, why⟩).2.bad : Nat), .int .i64 ((tk (0 : Nat) (rdU b 32 b.length) ⟨p, bad, why⟩).2.why : Nat)]) [.cells [.fn u7a [] []]])) := by
  have hl := fun K => urj (H := K) (z := z) (b := b) (p := p) (e := b.length) (Nat.le_refl _) hb hp
  have hg : ∀ bx, hget (St (hadd H [.cells [.fn u7a [] []]]) c bx []) (List.length H) = some (.cells [.fn u7a [] []]) := fun bx => by
    rw [← u51 hc, u9f]
    rfl
  have h := uf1 (c := c) (H := hadd H [.cells [.fn u7a [] []]]) (f := .fn u19 [] [.ptr (List.length H) 0]) (r := rdU b 32 b.length) (b := b) (z := z) (p := p) (bad := bad) (why := why) (m0 := m0) (m1 := m1) (m2 := m2) (m3 := m3) (m4 := m4) (m5 := m5) (m6 := m6) (m7 := m7) (m8 := m8) (m9 := m9) (m10 := m10) (m11 := m11) (m12 := m12) (m13 := m13) (m14 := m14) (m15 := m15) (m16 := m16) rfl (fun a w h => ukd h) (by rw [u7l]; omega)
    (fun v q hr => by
      rw [u46]
      refine ubp (hg _) (fun K => ?_)
      rw [hl, hr]
      rfl)
    (fun a w hr => by
      rw [u46]
      refine ubp (hg _) (fun K => ?_)
      rw [hl, hr]
      rfl)
  rwa [← u51 hc, ← u51 hc] at h
theorem uxq (hb : b.length < 2 ^ 61) (hp : p ≤ b.length) (hc : c < List.length H) :
    runK c (C u3r [.ptr c 0, .fn u19 [] [.ptr (List.length H) 0]]) (St H c (.cells [BS z b, .int .i64 p, m0, m1, m2, m3, m4, m5, m6, m7, m8, m9, m10, m11, m12, m13, m14, m15, m16, .int .i64 bad, .int .i64 why]) [.cells [.fn u7c [] []]]) = some (.ok (.int .u32 ((tk (0 : Nat) (rdF b 4 b.length) ⟨p, bad, why⟩).1 : Nat)) (St H c (.cells [BS z b, .int .i64 ((tk (0 : Nat) (rdF b 4 b.length) ⟨p, bad, why⟩).2.p : Nat), m0, m1, m2, m3, m4, m5, m6, m7, m8, m9, m10, m11, m12, m13, m14, m15, m16, .int .i64 ((tk (0 : Nat) (rdF b 4 b.length) ⟨p, bad, why⟩).2.bad : Nat), .int .i64 ((tk (0 : Nat) (rdF b 4 b.length) ⟨p, bad, why⟩).2.why : Nat)]) [.cells [.fn u7c [] []]])) := by
  have hl := fun K => us1 (H := K) (z := z) (b := b) (p := p) (e := b.length) (Nat.le_refl _) hb hp
  have hg : ∀ bx, hget (St (hadd H [.cells [.fn u7c [] []]]) c bx []) (List.length H) = some (.cells [.fn u7c [] []]) := fun bx => by
    rw [← u51 hc, u9f]
    rfl
  have h := uf1 (c := c) (H := hadd H [.cells [.fn u7c [] []]]) (f := .fn u19 [] [.ptr (List.length H) 0]) (r := rdF b 4 b.length) (b := b) (z := z) (p := p) (bad := bad) (why := why) (m0 := m0) (m1 := m1) (m2 := m2) (m3 := m3) (m4 := m4) (m5 := m5) (m6 := m6) (m7 := m7) (m8 := m8) (m9 := m9) (m10 := m10) (m11 := m11) (m12 := m12) (m13 := m13) (m14 := m14) (m15 := m15) (m16 := m16) rfl (fun a w h => uho h) (by rw [u7l]; omega)
    (fun v q hr => by
      rw [u46]
      refine ubp (hg _) (fun K => ?_)
      rw [hl, hr]
      rfl)
    (fun a w hr => by
      rw [u46]
      refine ubp (hg _) (fun K => ?_)
      rw [hl, hr]
      rfl)
  rwa [← u51 hc, ← u51 hc] at h
theorem upp (hb : b.length < 2 ^ 61) (hp : p ≤ b.length) (hc : c < List.length H) :
    runK c (C u3q [.ptr c 0, .fn u1b [] [.ptr (List.length H) 0]]) (St H c (.cells [BS z b, .int .i64 p, m0, m1, m2, m3, m4, m5, m6, m7, m8, m9, m10, m11, m12, m13, m14, m15, m16, .int .i64 bad, .int .i64 why]) [.cells [.fn u6v [] []]]) = some (.ok (.int .u64 ((tk (0 : Nat) (rdU b 64 b.length) ⟨p, bad, why⟩).1 : Nat)) (St H c (.cells [BS z b, .int .i64 ((tk (0 : Nat) (rdU b 64 b.length) ⟨p, bad, why⟩).2.p : Nat), m0, m1, m2, m3, m4, m5, m6, m7, m8, m9, m10, m11, m12, m13, m14, m15, m16, .int .i64 ((tk (0 : Nat) (rdU b 64 b.length) ⟨p, bad, why⟩).2.bad : Nat), .int .i64 ((tk (0 : Nat) (rdU b 64 b.length) ⟨p, bad, why⟩).2.why : Nat)]) [.cells [.fn u6v [] []]])) := by
  have hl := fun K => urg (H := K) (z := z) (b := b) (p := p) (e := b.length) (Nat.le_refl _) hb hp
  have hg : ∀ bx, hget (St (hadd H [.cells [.fn u6v [] []]]) c bx []) (List.length H) = some (.cells [.fn u6v [] []]) := fun bx => by
    rw [← u51 hc, u9f]
    rfl
  have h := ues (c := c) (H := hadd H [.cells [.fn u6v [] []]]) (f := .fn u1b [] [.ptr (List.length H) 0]) (r := rdU b 64 b.length) (b := b) (z := z) (p := p) (bad := bad) (why := why) (m0 := m0) (m1 := m1) (m2 := m2) (m3 := m3) (m4 := m4) (m5 := m5) (m6 := m6) (m7 := m7) (m8 := m8) (m9 := m9) (m10 := m10) (m11 := m11) (m12 := m12) (m13 := m13) (m14 := m14) (m15 := m15) (m16 := m16) rfl (fun a w h => ukd h) (by rw [u7l]; omega)
    (fun v q hr => by
      rw [u46]
      refine ubm (hg _) (fun K => ?_)
      rw [hl, hr]
      rfl)
    (fun a w hr => by
      rw [u46]
      refine ubm (hg _) (fun K => ?_)
      rw [hl, hr]
      rfl)
  rwa [← u51 hc, ← u51 hc] at h
theorem uwa (hb : b.length < 2 ^ 61) (hp : p ≤ b.length) (hc : c < List.length H) :
    runK c (C u3q [.ptr c 0, .fn u1b [] [.ptr (List.length H) 0]]) (St H c (.cells [BS z b, .int .i64 p, m0, m1, m2, m3, m4, m5, m6, m7, m8, m9, m10, m11, m12, m13, m14, m15, m16, .int .i64 bad, .int .i64 why]) [.cells [.fn u7f [] []]]) = some (.ok (.int .u64 ((tk (0 : Nat) (rdF b 8 b.length) ⟨p, bad, why⟩).1 : Nat)) (St H c (.cells [BS z b, .int .i64 ((tk (0 : Nat) (rdF b 8 b.length) ⟨p, bad, why⟩).2.p : Nat), m0, m1, m2, m3, m4, m5, m6, m7, m8, m9, m10, m11, m12, m13, m14, m15, m16, .int .i64 ((tk (0 : Nat) (rdF b 8 b.length) ⟨p, bad, why⟩).2.bad : Nat), .int .i64 ((tk (0 : Nat) (rdF b 8 b.length) ⟨p, bad, why⟩).2.why : Nat)]) [.cells [.fn u7f [] []]])) := by
  have hl := fun K => us8 (H := K) (z := z) (b := b) (p := p) (e := b.length) (Nat.le_refl _) hb hp
  have hg : ∀ bx, hget (St (hadd H [.cells [.fn u7f [] []]]) c bx []) (List.length H) = some (.cells [.fn u7f [] []]) := fun bx => by
    rw [← u51 hc, u9f]
    rfl
  have h := ues (c := c) (H := hadd H [.cells [.fn u7f [] []]]) (f := .fn u1b [] [.ptr (List.length H) 0]) (r := rdF b 8 b.length) (b := b) (z := z) (p := p) (bad := bad) (why := why) (m0 := m0) (m1 := m1) (m2 := m2) (m3 := m3) (m4 := m4) (m5 := m5) (m6 := m6) (m7 := m7) (m8 := m8) (m9 := m9) (m10 := m10) (m11 := m11) (m12 := m12) (m13 := m13) (m14 := m14) (m15 := m15) (m16 := m16) rfl (fun a w h => uho h) (by rw [u7l]; omega)
    (fun v q hr => by
      rw [u46]
      refine ubm (hg _) (fun K => ?_)
      rw [hl, hr]
      rfl)
    (fun a w hr => by
      rw [u46]
      refine ubm (hg _) (fun K => ?_)
      rw [hl, hr]
      rfl)
  rwa [← u51 hc, ← u51 hc] at h
theorem uwe (hb : b.length < 2 ^ 61) (hp : p ≤ b.length) (hc : c < List.length H) :
    runK c (C u6d [.ptr c 0, .fn u2f [] [.ptr (List.length H) 0]]) (St H c (.cells [BS z b, .int .i64 p, m0, m1, m2, m3, m4, m5, m6, m7, m8, m9, m10, m11, m12, m13, m14, m15, m16, .int .i64 bad, .int .i64 why]) [.cells [.fn u7e [] []]]) = some (.ok (.int .i32 (IntKind.i32.wrap (tk (0 : Int) (rdS b 32 b.length) ⟨p, bad, why⟩).1)) (St H c (.cells [BS z b, .int .i64 ((tk (0 : Int) (rdS b 32 b.length) ⟨p, bad, why⟩).2.p : Nat), m0, m1, m2, m3, m4, m5, m6, m7, m8, m9, m10, m11, m12, m13, m14, m15, m16, .int .i64 ((tk (0 : Int) (rdS b 32 b.length) ⟨p, bad, why⟩).2.bad : Nat), .int .i64 ((tk (0 : Int) (rdS b 32 b.length) ⟨p, bad, why⟩).2.why : Nat)]) [.cells [.fn u7e [] []]])) := by
  have hl := fun K => ur7 (H := K) (z := z) (b := b) (p := p) (e := b.length) (Nat.le_refl _) hb hp
  have hg : ∀ bx, hget (St (hadd H [.cells [.fn u7e [] []]]) c bx []) (List.length H) = some (.cells [.fn u7e [] []]) := fun bx => by
    rw [← u51 hc, u9f]
    rfl
  have h := unk (c := c) (H := hadd H [.cells [.fn u7e [] []]]) (f := .fn u2f [] [.ptr (List.length H) 0]) (r := rdS b 32 b.length) (b := b) (z := z) (p := p) (bad := bad) (why := why) (m0 := m0) (m1 := m1) (m2 := m2) (m3 := m3) (m4 := m4) (m5 := m5) (m6 := m6) (m7 := m7) (m8 := m8) (m9 := m9) (m10 := m10) (m11 := m11) (m12 := m12) (m13 := m13) (m14 := m14) (m15 := m15) (m16 := m16) rfl (fun a w h => uab h) (by rw [u7l]; omega)
    (fun v q hr => by
      rw [u46]
      refine uky (hg _) (fun K => ?_)
      rw [hl, hr]
      rfl)
    (fun a w hr => by
      rw [u46]
      refine uky (hg _) (fun K => ?_)
      rw [hl, hr]
      rfl)
  rwa [← u51 hc, ← u51 hc] at h
theorem uxu (hb : b.length < 2 ^ 61) (hp : p ≤ b.length) (hc : c < List.length H) :
    runK c (C u6e [.ptr c 0, .fn u2g [] [.ptr (List.length H) 0]]) (St H c (.cells [BS z b, .int .i64 p, m0, m1, m2, m3, m4, m5, m6, m7, m8, m9, m10, m11, m12, m13, m14, m15, m16, .int .i64 bad, .int .i64 why]) [.cells [.fn u77 [] []]]) = some (.ok (.int .i64 (tk (0 : Int) (rdS b 64 b.length) ⟨p, bad, why⟩).1) (St H c (.cells [BS z b, .int .i64 ((tk (0 : Int) (rdS b 64 b.length) ⟨p, bad, why⟩).2.p : Nat), m0, m1, m2, m3, m4, m5, m6, m7, m8, m9, m10, m11, m12, m13, m14, m15, m16, .int .i64 ((tk (0 : Int) (rdS b 64 b.length) ⟨p, bad, why⟩).2.bad : Nat), .int .i64 ((tk (0 : Int) (rdS b 64 b.length) ⟨p, bad, why⟩).2.why : Nat)]) [.cells [.fn u77 [] []]])) := by
  have hl := fun K => us0 (H := K) (z := z) (b := b) (p := p) (e := b.length) (Nat.le_refl _) hb hp
  have hg : ∀ bx, hget (St (hadd H [.cells [.fn u77 [] []]]) c bx []) (List.length H) = some (.cells [.fn u77 [] []]) := fun bx => by
    rw [← u51 hc, u9f]
    rfl
  have h := uns (c := c) (H := hadd H [.cells [.fn u77 [] []]]) (f := .fn u2g [] [.ptr (List.length H) 0]) (r := rdS b 64 b.length) (b := b) (z := z) (p := p) (bad := bad) (why := why) (m0 := m0) (m1 := m1) (m2 := m2) (m3 := m3) (m4 := m4) (m5 := m5) (m6 := m6) (m7 := m7) (m8 := m8) (m9 := m9) (m10 := m10) (m11 := m11) (m12 := m12) (m13 := m13) (m14 := m14) (m15 := m15) (m16 := m16) rfl (fun a w h => uab h) (by rw [u7l]; omega)
    (fun v q hr => by
      rw [u46]
      refine umx (hg _) (fun K => ?_)
      rw [hl, hr]
      rfl)
    (fun a w hr => by
      rw [u46]
      refine umx (hg _) (fun K => ?_)
      rw [hl, hr]
      rfl)
  rwa [← u51 hc, ← u51 hc] at h
end Go.Proofs.YthidcpkcfoldmaaGreat.Pi.Q
namespace Go.Proofs.YthidcpkcfoldmaaGreat.Pi.Q
open Go Go.Proofs.YthidcpkcfoldmaaGreat.Pi
attribute [local congr] ite_congr
variable {c : Nat} {H : Heap} {L : List Box} {b : List UInt8} {z : Bool} {p bad why : Nat} {m0 m1 m2 m3 m4 m5 m6 m7 m8 m9 m10 m11 m12 m13 m14 m15 m16 : PV}
theorem tk_le {α : Type} {zero : α} {r : Nat → Rs α} {t : TS} {n : Nat} (h : ∀ v q, r t.p = .ok v q → q ≤ n) (ht : t.p ≤ n) : (tk zero r t).2.p ≤ n := by
  unfold tk
  split
  · cases hr : r t.p with
    | ok v q => exact h v q hr
    | err a w => exact ht
  · exact ht
theorem uuz {b : List UInt8} {B e : Nat} : ∀ (f i n p : Nat) v q, lebU b B e f i n p = .ok v q → q ≤ e
  | 0, i, n, p, v, q, h => by cases h
  | f + 1, i, n, p, v, q, h => by
    unfold lebU at h
    by_cases h1 : p < e
    · simp only [if_pos h1] at h
      by_cases h2 : B < 7 * i + 7 ∧ (b.getD p 0).toNat / 2 ^ (B - 7 * i) ≠ 0
      · simp only [if_pos h2] at h; cases h
      · simp only [if_neg h2] at h
        by_cases h3 : (b.getD p 0).toNat < 128
        · simp only [if_pos h3, Rs.ok.injEq] at h
          omega
        · simp only [if_neg h3] at h
          exact uuz f (i + 1) _ (p + 1) v q h
    · simp only [if_neg h1] at h; cases h
theorem rdU_le {b : List UInt8} {B e p v q : Nat} (h : rdU b B e p = .ok v q) : q ≤ e := by
  unfold rdU at h
  exact uuz 10 0 0 p v q h
theorem tkU_le {t : TS} (ht : t.p ≤ b.length) {B : Nat} : (tk (0 : Nat) (rdU b B b.length) t).2.p ≤ b.length := tk_le (fun v q h => rdU_le h) ht
theorem ui2 {g : FuncId} {K : Heap} : run (C u2r [.fn g [] []]) K = some (.ok (.fn u19 [] [.ptr (List.length K) 0]) (hadd K [.cells [.fn g [] []]])) := by
  rw [ua7]
  simp +contextual -dsimp (disch := omega) only [↓goDown, goUp, cr, simprocAttr, run_mf, Nat.lt_irrefl, decide_false, Bool.and_false, Bool.false_and, Bool.false_eq_true]
theorem iu32S (hb : b.length < 2 ^ 61) (hp : p ≤ b.length) (hc : c < List.length H) : runK c (C u0t [.ptr c 0]) (St H c (.cells [BS z b, .int .i64 p, m0, m1, m2, m3, m4, m5, m6, m7, m8, m9, m10, m11, m12, m13, m14, m15, m16, .int .i64 bad, .int .i64 why]) L) = some (.ok (.int .u32 ((tk (0 : Nat) (rdU b 32 b.length) ⟨p, bad, why⟩).1 : Nat)) (St H c (.cells [BS z b, .int .i64 ((tk (0 : Nat) (rdU b 32 b.length) ⟨p, bad, why⟩).2.p : Nat), m0, m1, m2, m3, m4, m5, m6, m7, m8, m9, m10, m11, m12, m13, m14, m15, m16, .int .i64 ((tk (0 : Nat) (rdU b 32 b.length) ⟨p, bad, why⟩).2.bad : Nat), .int .i64 ((tk (0 : Nat) (rdU b 32 b.length) ⟨p, bad, why⟩).2.why : Nat)]) L)) := liftT (fun H hc => by
  have ht := ux4 (c := c) (H := H) (b := b) (z := z) (p := p) (bad := bad) (why := why) (m0 := m0) (m1 := m1) (m2 := m2) (m3 := m3) (m4 := m4) (m5 := m5) (m6 := m6) (m7 := m7) (m8 := m8) (m9 := m9) (m10 := m10) (m11 := m11) (m12 := m12) (m13 := m13) (m14 := m14) (m15 := m15) (m16 := m16) hb hp hc
  have hlen : ∀ bx, List.length (St H c bx []) = List.length H := fun bx => by rw [len_St]; rfl
  have hadd1 : ∀ bx K, hadd (St H c bx []) K = St H c bx K := fun bx K => by rw [add_St]; rfl
  have hbd := fun bx => ui2 (g := u7a) (K := St H c bx [])
  simp only [hlen, hadd1] at hbd
  rw [ucu]
  simp +contextual -dsimp (disch := omega) only [↓kDown, kUp, ↓goDown, goUp, cr, simprocAttr, toK (m := C u2r [.fn u7a [] []]), hbd, ht]) hc
def upT (b : List UInt8) (most e : Nat) (t : TS) : Nat × TS :=
  if (tk (0 : Nat) (rdU b 32 b.length) t).2.why = 0 ∧ most < (tk (0 : Nat) (rdU b 32 b.length) t).1 then (0, ⟨(tk (0 : Nat) (rdU b 32 b.length) t).2.p, t.p, e⟩) else tk (0 : Nat) (rdU b 32 b.length) t
theorem iupToS {most e : Nat} (he : e ≠ 0) (hb : b.length < 2 ^ 61) (hp : p ≤ b.length) (hc : c < List.length H) : runK c (C u2w [.ptr c 0, .int .u32 most, .int .i64 e]) (St H c (.cells [BS z b, .int .i64 p, m0, m1, m2, m3, m4, m5, m6, m7, m8, m9, m10, m11, m12, m13, m14, m15, m16, .int .i64 bad, .int .i64 why]) L) = some (.ok (.int .u32 ((upT b most e ⟨p, bad, why⟩).1 : Nat)) (St H c (.cells [BS z b, .int .i64 ((upT b most e ⟨p, bad, why⟩).2.p : Nat), m0, m1, m2, m3, m4, m5, m6, m7, m8, m9, m10, m11, m12, m13, m14, m15, m16, .int .i64 ((upT b most e ⟨p, bad, why⟩).2.bad : Nat), .int .i64 ((upT b most e ⟨p, bad, why⟩).2.why : Nat)]) L)) := liftT (fun H hc => by
  have hu := fun L => iu32S (c := c) (H := H) (L := L) (b := b) (z := z) (p := p) (bad := bad) (why := why) (m0 := m0) (m1 := m1) (m2 := m2) (m3 := m3) (m4 := m4) (m5 := m5) (m6 := m6) (m7 := m7) (m8 := m8) (m9 := m9) (m10 := m10) (m11 := m11) (m12 := m12) (m13 := m13) (m14 := m14) (m15 := m15) (m16 := m16) hb hp hc
  rw [uc6]
  unfold upT
  generalize (tk (0 : Nat) (rdU b 32 b.length) ⟨p, bad, why⟩) = o at hu ⊢
  obtain ⟨n, ⟨p1, bad1, why1⟩⟩ := o
  simp only at hu ⊢
  by_cases h1 : why1 = 0
  · subst h1
    have e0 : ((0 : Nat) : Int) = 0 := rfl
    by_cases h2 : most < n
    · have h2' : (most : Int) < (n : Int) := by omega
      have hfl := fun L => ifailS (c := c) (H := H) (L := L) (b := b) (z := z) (p := p1) (bad := bad1) (why := 0) (a := p) (w := e) (m0 := m0) (m1 := m1) (m2 := m2) (m3 := m3) (m4 := m4) (m5 := m5) (m6 := m6) (m7 := m7) (m8 := m8) (m9 := m9) (m10 := m10) (m11 := m11) (m12 := m12) (m13 := m13) (m14 := m14) (m15 := m15) (m16 := m16) hc
      have f1 : (flT p e ⟨p1, bad1, 0⟩).bad = p := by unfold flT; rw [if_pos ⟨rfl, he⟩]
      have f2 : (flT p e ⟨p1, bad1, 0⟩).why = e := by unfold flT; rw [if_pos ⟨rfl, he⟩]
      rw [f1, f2, e0] at hfl
      rw [e0] at hu
      rw [if_pos ⟨rfl, h2⟩]
      simp +contextual -dsimp (disch := omega) only [↓kDown, kUp, ↓goDown, goUp, cr, simprocAttr, hu, eq_true h2', hfl] <;> rfl
    · have h2' : ¬ (most : Int) < (n : Int) := by omega
      rw [e0] at hu
      rw [if_neg (fun h => h2 h.2)]
      simp +contextual -dsimp (disch := omega) only [↓kDown, kUp, ↓goDown, goUp, cr, simprocAttr, hu, h2'] <;> rfl
  · have h1' : ((why1 : Nat) : Int) = 0 ↔ False := by simp; omega
    rw [if_neg (fun h => h1 h.1)]
    simp +contextual -dsimp (disch := omega) only [↓kDown, kUp, ↓goDown, goUp, cr, simprocAttr, hu, h1']) hc
theorem upT_le {most e : Nat} {t : TS} (ht : t.p ≤ b.length) : (upT b most e t).2.p ≤ b.length := by
  unfold upT
  split
  · exact tkU_le ht
  · exact tkU_le ht
def smT (b : List UInt8) (most : Nat) (t : TS) : Nat × TS :=
  if t.why = 0 then if t.p < b.length then (if most < (b.getD t.p 0).toNat then ((b.getD t.p 0).toNat, ⟨t.p + 1, t.p, 4⟩) else ((b.getD t.p 0).toNat, ⟨t.p + 1, t.bad, 0⟩)) else (0, ⟨t.p, b.length, 3⟩) else (0, t)
theorem smT_le {most : Nat} {t : TS} (ht : t.p ≤ b.length) : (smT b most t).2.p ≤ b.length := by
  unfold smT
  split
  · split
    · split <;> (simp only; omega)
    · exact ht
  · exact ht
theorem ukh {most : Nat} (hb : b.length < 2 ^ 61) (hc : c < List.length H) : runK c (C u2n [.ptr c 0, .int .u8 most]) (St H c (.cells [BS z b, .int .i64 p, m0, m1, m2, m3, m4, m5, m6, m7, m8, m9, m10, m11, m12, m13, m14, m15, m16, .int .i64 bad, .int .i64 why]) L) = some (.ok (.int .u8 ((smT b most ⟨p, bad, why⟩).1 : Nat)) (St H c (.cells [BS z b, .int .i64 ((smT b most ⟨p, bad, why⟩).2.p : Nat), m0, m1, m2, m3, m4, m5, m6, m7, m8, m9, m10, m11, m12, m13, m14, m15, m16, .int .i64 ((smT b most ⟨p, bad, why⟩).2.bad : Nat), .int .i64 ((smT b most ⟨p, bad, why⟩).2.why : Nat)]) L)) := liftT (fun H hc => by
  rw [ub7]
  unfold smT
  simp only
  have e0 : ((0 : Nat) : Int) = 0 := rfl
  have e4 : ((4 : Nat) : Int) = 4 := rfl
  have e3 : ((3 : Nat) : Int) = 3 := rfl
  by_cases h1 : why = 0
  · subst h1
    rw [if_pos rfl]
    by_cases h2 : p < b.length
    · have h2' : ¬ (b.length : Int) ≤ (p : Int) := by omega
      have hx : ∀ K, run (iaS 1 (BS z b) (.int .i64 p)) K = some (.ok (.elem [.int .u8 (b.getD p 0).toNat]) K) := fun K => by
        rw [u9r (by omega), Int.toNat_natCast, ubh h2, unb h2]
        rfl
      have e1 : ((p : Nat) : Int) + 1 = ((p + 1 : Nat) : Int) := by omega
      have hwp : IntKind.i64.wrap ((p + 1 : Nat) : Int) = ((p + 1 : Nat) : Int) := w_i64 (by omega)
      rw [if_pos h2]
      by_cases h3 : most < (b.getD p 0).toNat
      · have h3' : (most : Int) < (((b.getD p 0).toNat : Nat) : Int) := by omega
        have hfl := fun L => ifailS (c := c) (H := H) (L := L) (b := b) (z := z) (p := p) (bad := bad) (why := 0) (a := p) (w := 4) (m0 := m0) (m1 := m1) (m2 := m2) (m3 := m3) (m4 := m4) (m5 := m5) (m6 := m6) (m7 := m7) (m8 := m8) (m9 := m9) (m10 := m10) (m11 := m11) (m12 := m12) (m13 := m13) (m14 := m14) (m15 := m15) (m16 := m16) hc
        have f1 : (flT p 4 ⟨p, bad, 0⟩).bad = p := by unfold flT; rw [if_pos ⟨rfl, by decide⟩]
        have f2 : (flT p 4 ⟨p, bad, 0⟩).why = 4 := by unfold flT; rw [if_pos ⟨rfl, by decide⟩]
        rw [f1, f2, e0, e4] at hfl
        rw [if_pos h3]
        simp +contextual -dsimp (disch := omega) only [↓kDown, kUp, ↓goDown, goUp, cr, simprocAttr, e0, List.length_map, h2', hx, eq_true h3', u3k, u66, hfl, e1, hwp] <;> rfl
      · have h3' : ¬ (most : Int) < (((b.getD p 0).toNat : Nat) : Int) := by omega
        rw [if_neg h3]
        simp +contextual -dsimp (disch := omega) only [↓kDown, kUp, ↓goDown, goUp, cr, simprocAttr, e0, List.length_map, h2', hx, h3', u3k, u66, e1, hwp] <;> rfl
    · have h2' : (b.length : Int) ≤ (p : Int) := by omega
      have hfl := fun L => ifailS (c := c) (H := H) (L := L) (b := b) (z := z) (p := p) (bad := bad) (why := 0) (a := b.length) (w := 3) (m0 := m0) (m1 := m1) (m2 := m2) (m3 := m3) (m4 := m4) (m5 := m5) (m6 := m6) (m7 := m7) (m8 := m8) (m9 := m9) (m10 := m10) (m11 := m11) (m12 := m12) (m13 := m13) (m14 := m14) (m15 := m15) (m16 := m16) hc
      have f1 : (flT b.length 3 ⟨p, bad, 0⟩).bad = b.length := by unfold flT; rw [if_pos ⟨rfl, by decide⟩]
      have f2 : (flT b.length 3 ⟨p, bad, 0⟩).why = 3 := by unfold flT; rw [if_pos ⟨rfl, by decide⟩]
      rw [f1, f2, e0, e3] at hfl
      rw [if_neg h2]
      simp +contextual -dsimp (disch := omega) only [↓kDown, kUp, ↓goDown, goUp, cr, simprocAttr, e0, List.length_map, eq_true h2', u3k, hfl] <;> rfl
  · have h1' : ((why : Nat) : Int) = 0 ↔ False := by simp; omega
    rw [if_neg h1]
    simp +contextual -dsimp (disch := omega) only [↓kDown, kUp, ↓goDown, goUp, cr, simprocAttr, h1', u3k] <;> rfl) hc
end Go.Proofs.YthidcpkcfoldmaaGreat.Pi.Q
namespace Go.Proofs.YthidcpkcfoldmaaGreat.Pi.Q
open Go Go.Proofs.YthidcpkcfoldmaaGreat.Pi
attribute [local congr] ite_congr
variable {c : Nat} {H : Heap} {L : List Box} {b : List UInt8} {z : Bool} {p bad why : Nat} {m0 m1 m2 m3 m4 m5 m6 m7 m8 m9 m10 m11 m12 m13 m14 m15 m16 : PV}
theorem tkU_lt {t : TS} : (tk (0 : Nat) (rdU b 32 b.length) t).1 < 4294967296 := by
  unfold tk
  split
  · cases hr : rdU b 32 b.length t.p with
    | ok v q => exact (uk7 hr).1
    | err a w => exact (by decide : (0 : Nat) < 4294967296)
  · exact (by decide : (0 : Nat) < 4294967296)
theorem tkF_lt {t : TS} : (tk (0 : Nat) (rdF b 4 b.length) t).1 < 4294967296 := by
  unfold tk
  split
  · cases hr : rdF b 4 b.length t.p with
    | ok v q => exact (rdF_lt hr).1
    | err a w => exact (by decide : (0 : Nat) < 4294967296)
  · exact (by decide : (0 : Nat) < 4294967296)
theorem len_S0 {bx : Box} : List.length (St H c bx []) = List.length H := by rw [len_St]; rfl
theorem add_S0 {bx : Box} {K : List Box} : hadd (St H c bx []) K = St H c bx K := by rw [add_St]; rfl
theorem ugu {g : FuncId} {K : Heap} : run (C u22 [.fn g [] []]) K = some (.ok (.fn u1b [] [.ptr (List.length K) 0]) (hadd K [.cells [.fn g [] []]])) := by
  rw [ua9]
  simp +contextual -dsimp (disch := omega) only [↓goDown, goUp, cr, simprocAttr, run_mf, Nat.lt_irrefl, decide_false, Bool.and_false, Bool.false_and, Bool.false_eq_true]
theorem us9 {g : FuncId} {K : Heap} : run (C u5e [.fn g [] []]) K = some (.ok (.fn u2f [] [.ptr (List.length K) 0]) (hadd K [.cells [.fn g [] []]])) := by
  rw [uan]
  simp +contextual -dsimp (disch := omega) only [↓goDown, goUp, cr, simprocAttr, run_mf, Nat.lt_irrefl, decide_false, Bool.and_false, Bool.false_and, Bool.false_eq_true]
theorem urv {g : FuncId} {K : Heap} : run (C u59 [.fn g [] []]) K = some (.ok (.fn u2g [] [.ptr (List.length K) 0]) (hadd K [.cells [.fn g [] []]])) := by
  rw [uap]
  simp +contextual -dsimp (disch := omega) only [↓goDown, goUp, cr, simprocAttr, run_mf, Nat.lt_irrefl, decide_false, Bool.and_false, Bool.false_and, Bool.false_eq_true]
theorem ixS (hb : b.length < 2 ^ 61) (hp : p ≤ b.length) (hc : c < List.length H) : runK c (C u4f [.ptr c 0]) (St H c (.cells [BS z b, .int .i64 p, m0, m1, m2, m3, m4, m5, m6, m7, m8, m9, m10, m11, m12, m13, m14, m15, m16, .int .i64 bad, .int .i64 why]) L) = some (.ok (.tup []) (St H c (.cells [BS z b, .int .i64 ((tk (0 : Nat) (rdU b 32 b.length) ⟨p, bad, why⟩).2.p : Nat), m0, .int .u32 ((tk (0 : Nat) (rdU b 32 b.length) ⟨p, bad, why⟩).1 : Nat), m2, m3, m4, m5, m6, m7, m8, m9, m10, m11, m12, m13, m14, m15, m16, .int .i64 ((tk (0 : Nat) (rdU b 32 b.length) ⟨p, bad, why⟩).2.bad : Nat), .int .i64 ((tk (0 : Nat) (rdU b 32 b.length) ⟨p, bad, why⟩).2.why : Nat)]) L)) := liftT (fun H hc => by
  have hu := fun (p bad why : Nat) (m0 m1 m2 m3 m4 m5 m6 m7 m8 m9 m10 m11 m12 m13 m14 m15 m16 : PV) L (hp : p ≤ b.length) => iu32S (c := c) (H := H) (L := L) (b := b) (z := z) (p := p) (bad := bad) (why := why) (m0 := m0) (m1 := m1) (m2 := m2) (m3 := m3) (m4 := m4) (m5 := m5) (m6 := m6) (m7 := m7) (m8 := m8) (m9 := m9) (m10 := m10) (m11 := m11) (m12 := m12) (m13 := m13) (m14 := m14) (m15 := m15) (m16 := m16) hb hp hc
  rw [uep]
  simp +contextual -dsimp (disch := omega) only [↓kDown, kUp, ↓goDown, goUp, cr, simprocAttr, hu, TS.eta]) hc
theorem ixyS (hb : b.length < 2 ^ 61) (hp : p ≤ b.length) (hc : c < List.length H) : runK c (C u5q [.ptr c 0]) (St H c (.cells [BS z b, .int .i64 p, m0, m1, m2, m3, m4, m5, m6, m7, m8, m9, m10, m11, m12, m13, m14, m15, m16, .int .i64 bad, .int .i64 why]) L) = some (.ok (.tup []) (St H c (.cells [BS z b, .int .i64 ((tk (0 : Nat) (rdU b 32 b.length) (tk (0 : Nat) (rdU b 32 b.length) ⟨p, bad, why⟩).2).2.p : Nat), m0, .int .u32 ((tk (0 : Nat) (rdU b 32 b.length) ⟨p, bad, why⟩).1 : Nat), .int .u32 ((tk (0 : Nat) (rdU b 32 b.length) (tk (0 : Nat) (rdU b 32 b.length) ⟨p, bad, why⟩).2).1 : Nat), m3, m4, m5, m6, m7, m8, m9, m10, m11, m12, m13, m14, m15, m16, .int .i64 ((tk (0 : Nat) (rdU b 32 b.length) (tk (0 : Nat) (rdU b 32 b.length) ⟨p, bad, why⟩).2).2.bad : Nat), .int .i64 ((tk (0 : Nat) (rdU b 32 b.length) (tk (0 : Nat) (rdU b 32 b.length) ⟨p, bad, why⟩).2).2.why : Nat)]) L)) := liftT (fun H hc => by
  have hu := fun (p bad why : Nat) (m0 m1 m2 m3 m4 m5 m6 m7 m8 m9 m10 m11 m12 m13 m14 m15 m16 : PV) L (hp : p ≤ b.length) => iu32S (c := c) (H := H) (L := L) (b := b) (z := z) (p := p) (bad := bad) (why := why) (m0 := m0) (m1 := m1) (m2 := m2) (m3 := m3) (m4 := m4) (m5 := m5) (m6 := m6) (m7 := m7) (m8 := m8) (m9 := m9) (m10 := m10) (m11 := m11) (m12 := m12) (m13 := m13) (m14 := m14) (m15 := m15) (m16 := m16) hb hp hc
  have l1 : (tk (0 : Nat) (rdU b 32 b.length) ⟨p, bad, why⟩).2.p ≤ b.length := tkU_le hp
  have b1 := tkU_lt (b := b) (t := ⟨p, bad, why⟩)
  rw [udt]
  simp +contextual -dsimp (disch := omega) only [↓kDown, kUp, ↓goDown, goUp, cr, simprocAttr, hu, TS.eta]) hc
theorem ixnS (hb : b.length < 2 ^ 61) (hp : p ≤ b.length) (hc : c < List.length H) : runK c (C u5o [.ptr c 0]) (St H c (.cells [BS z b, .int .i64 p, m0, m1, m2, m3, m4, m5, m6, m7, m8, m9, m10, m11, m12, m13, m14, m15, m16, .int .i64 bad, .int .i64 why]) L) = some (.ok (.tup []) (St H c (.cells [BS z b, .int .i64 ((tk (0 : Nat) (rdU b 32 b.length) (tk (0 : Nat) (rdU b 32 b.length) ⟨p, bad, why⟩).2).2.p : Nat), m0, .int .u32 ((tk (0 : Nat) (rdU b 32 b.length) ⟨p, bad, why⟩).1 : Nat), m2, .int .u64 ((tk (0 : Nat) (rdU b 32 b.length) (tk (0 : Nat) (rdU b 32 b.length) ⟨p, bad, why⟩).2).1 : Nat), m4, m5, m6, m7, m8, m9, m10, m11, m12, m13, m14, m15, m16, .int .i64 ((tk (0 : Nat) (rdU b 32 b.length) (tk (0 : Nat) (rdU b 32 b.length) ⟨p, bad, why⟩).2).2.bad : Nat), .int .i64 ((tk (0 : Nat) (rdU b 32 b.length) (tk (0 : Nat) (rdU b 32 b.length) ⟨p, bad, why⟩).2).2.why : Nat)]) L)) := liftT (fun H hc => by
  have hu := fun (p bad why : Nat) (m0 m1 m2 m3 m4 m5 m6 m7 m8 m9 m10 m11 m12 m13 m14 m15 m16 : PV) L (hp : p ≤ b.length) => iu32S (c := c) (H := H) (L := L) (b := b) (z := z) (p := p) (bad := bad) (why := why) (m0 := m0) (m1 := m1) (m2 := m2) (m3 := m3) (m4 := m4) (m5 := m5) (m6 := m6) (m7 := m7) (m8 := m8) (m9 := m9) (m10 := m10) (m11 := m11) (m12 := m12) (m13 := m13) (m14 := m14) (m15 := m15) (m16 := m16) hb hp hc
  have l1 : (tk (0 : Nat) (rdU b 32 b.length) ⟨p, bad, why⟩).2.p ≤ b.length := tkU_le hp
  have b1 := tkU_lt (b := b) (t := ⟨p, bad, why⟩)
  have b2 := tkU_lt (b := b) (t := (tk (0 : Nat) (rdU b 32 b.length) ⟨p, bad, why⟩).2)
  rw [udw]
  simp +contextual -dsimp (disch := omega) only [↓kDown, kUp, ↓goDown, goUp, cr, simprocAttr, hu, TS.eta]) hc
theorem ii32S (hb : b.length < 2 ^ 61) (hp : p ≤ b.length) (hc : c < List.length H) : runK c (C u5b [.ptr c 0]) (St H c (.cells [BS z b, .int .i64 p, m0, m1, m2, m3, m4, m5, m6, m7, m8, m9, m10, m11, m12, m13, m14, m15, m16, .int .i64 bad, .int .i64 why]) L) = some (.ok (.tup []) (St H c (.cells [BS z b, .int .i64 ((tk (0 : Int) (rdS b 32 b.length) ⟨p, bad, why⟩).2.p : Nat), m0, m1, m2, .int .u64 (IntKind.u64.wrap (IntKind.u32.wrap (IntKind.i32.wrap (tk (0 : Int) (rdS b 32 b.length) ⟨p, bad, why⟩).1))), m4, m5, m6, m7, m8, m9, m10, m11, m12, m13, m14, m15, m16, .int .i64 ((tk (0 : Int) (rdS b 32 b.length) ⟨p, bad, why⟩).2.bad : Nat), .int .i64 ((tk (0 : Int) (rdS b 32 b.length) ⟨p, bad, why⟩).2.why : Nat)]) L)) := liftT (fun H hc => by
  have ht := uwe (c := c) (H := H) (b := b) (z := z) (p := p) (bad := bad) (why := why) (m0 := m0) (m1 := m1) (m2 := m2) (m3 := m3) (m4 := m4) (m5 := m5) (m6 := m6) (m7 := m7) (m8 := m8) (m9 := m9) (m10 := m10) (m11 := m11) (m12 := m12) (m13 := m13) (m14 := m14) (m15 := m15) (m16 := m16) hb hp hc
  have hbd := fun bx => us9 (g := u7e) (K := St H c bx [])
  simp only [len_S0, add_S0] at hbd
  rw [ucx]
  simp +contextual -dsimp (disch := omega) only [↓kDown, kUp, ↓goDown, goUp, cr, simprocAttr, toK (m := C u5e [.fn u7e [] []]), hbd, ht, TS.eta]) hc
theorem ii64S (hb : b.length < 2 ^ 61) (hp : p ≤ b.length) (hc : c < List.length H) : runK c (C u5c [.ptr c 0]) (St H c (.cells [BS z b, .int .i64 p, m0, m1, m2, m3, m4, m5, m6, m7, m8, m9, m10, m11, m12, m13, m14, m15, m16, .int .i64 bad, .int .i64 why]) L) = some (.ok (.tup []) (St H c (.cells [BS z b, .int .i64 ((tk (0 : Int) (rdS b 64 b.length) ⟨p, bad, why⟩).2.p : Nat), m0, m1, m2, .int .u64 (IntKind.u64.wrap (tk (0 : Int) (rdS b 64 b.length) ⟨p, bad, why⟩).1), m4, m5, m6, m7, m8, m9, m10, m11, m12, m13, m14, m15, m16, .int .i64 ((tk (0 : Int) (rdS b 64 b.length) ⟨p, bad, why⟩).2.bad : Nat), .int .i64 ((tk (0 : Int) (rdS b 64 b.length) ⟨p, bad, why⟩).2.why : Nat)]) L)) := liftT (fun H hc => by
  have ht := uxu (c := c) (H := H) (b := b) (z := z) (p := p) (bad := bad) (why := why) (m0 := m0) (m1 := m1) (m2 := m2) (m3 := m3) (m4 := m4) (m5 := m5) (m6 := m6) (m7 := m7) (m8 := m8) (m9 := m9) (m10 := m10) (m11 := m11) (m12 := m12) (m13 := m13) (m14 := m14) (m15 := m15) (m16 := m16) hb hp hc
  have hbd := fun bx => urv (g := u77) (K := St H c bx [])
  simp only [len_S0, add_S0] at hbd
  rw [udg]
  simp +contextual -dsimp (disch := omega) only [↓kDown, kUp, ↓goDown, goUp, cr, simprocAttr, toK (m := C u59 [.fn u77 [] []]), hbd, ht, TS.eta]) hc
theorem if32S (hb : b.length < 2 ^ 61) (hp : p ≤ b.length) (hc : c < List.length H) : runK c (C u5a [.ptr c 0]) (St H c (.cells [BS z b, .int .i64 p, m0, m1, m2, m3, m4, m5, m6, m7, m8, m9, m10, m11, m12, m13, m14, m15, m16, .int .i64 bad, .int .i64 why]) L) = some (.ok (.tup []) (St H c (.cells [BS z b, .int .i64 ((tk (0 : Nat) (rdF b 4 b.length) ⟨p, bad, why⟩).2.p : Nat), m0, m1, m2, .int .u64 ((tk (0 : Nat) (rdF b 4 b.length) ⟨p, bad, why⟩).1 : Nat), m4, m5, m6, m7, m8, m9, m10, m11, m12, m13, m14, m15, m16, .int .i64 ((tk (0 : Nat) (rdF b 4 b.length) ⟨p, bad, why⟩).2.bad : Nat), .int .i64 ((tk (0 : Nat) (rdF b 4 b.length) ⟨p, bad, why⟩).2.why : Nat)]) L)) := liftT (fun H hc => by
  have ht := uxq (c := c) (H := H) (b := b) (z := z) (p := p) (bad := bad) (why := why) (m0 := m0) (m1 := m1) (m2 := m2) (m3 := m3) (m4 := m4) (m5 := m5) (m6 := m6) (m7 := m7) (m8 := m8) (m9 := m9) (m10 := m10) (m11 := m11) (m12 := m12) (m13 := m13) (m14 := m14) (m15 := m15) (m16 := m16) hb hp hc
  have hbd := fun bx => ui2 (g := u7c) (K := St H c bx [])
  simp only [len_S0, add_S0] at hbd
  have b1 := tkF_lt (b := b) (t := ⟨p, bad, why⟩)
  rw [ucy]
  simp +contextual -dsimp (disch := omega) only [↓kDown, kUp, ↓goDown, goUp, cr, simprocAttr, toK (m := C u2r [.fn u7c [] []]), hbd, ht, TS.eta]) hc
theorem if64S (hb : b.length < 2 ^ 61) (hp : p ≤ b.length) (hc : c < List.length H) : runK c (C u5d [.ptr c 0]) (St H c (.cells [BS z b, .int .i64 p, m0, m1, m2, m3, m4, m5, m6, m7, m8, m9, m10, m11, m12, m13, m14, m15, m16, .int .i64 bad, .int .i64 why]) L) = some (.ok (.tup []) (St H c (.cells [BS z b, .int .i64 ((tk (0 : Nat) (rdF b 8 b.length) ⟨p, bad, why⟩).2.p : Nat), m0, m1, m2, .int .u64 ((tk (0 : Nat) (rdF b 8 b.length) ⟨p, bad, why⟩).1 : Nat), m4, m5, m6, m7, m8, m9, m10, m11, m12, m13, m14, m15, m16, .int .i64 ((tk (0 : Nat) (rdF b 8 b.length) ⟨p, bad, why⟩).2.bad : Nat), .int .i64 ((tk (0 : Nat) (rdF b 8 b.length) ⟨p, bad, why⟩).2.why : Nat)]) L)) := liftT (fun H hc => by
  have ht := uwa (c := c) (H := H) (b := b) (z := z) (p := p) (bad := bad) (why := why) (m0 := m0) (m1 := m1) (m2 := m2) (m3 := m3) (m4 := m4) (m5 := m5) (m6 := m6) (m7 := m7) (m8 := m8) (m9 := m9) (m10 := m10) (m11 := m11) (m12 := m12) (m13 := m13) (m14 := m14) (m15 := m15) (m16 := m16) hb hp hc
  have hbd := fun bx => ugu (g := u7f) (K := St H c bx [])
  simp only [len_S0, add_S0] at hbd
  rw [udd]
  simp +contextual -dsimp (disch := omega) only [↓kDown, kUp, ↓goDown, goUp, cr, simprocAttr, toK (m := C u22 [.fn u7f [] []]), hbd, ht, TS.eta]) hc
end Go.Proofs.YthidcpkcfoldmaaGreat.Pi.Q
namespace Go.Proofs.YthidcpkcfoldmaaGreat.Pi.Q
open Go Go.Proofs.YthidcpkcfoldmaaGreat.Pi
attribute [local congr] ite_congr
variable {c : Nat} {H : Heap} {L : List Box} {b : List UInt8} {z : Bool} {p bad why : Nat} {m0 m1 m2 m3 m4 m5 m6 m7 m8 m9 m10 m11 m12 m13 m14 m15 m16 : PV}
theorem uqr {b : List UInt8} {p a w : Nat} (h : rS33 b p = .err a w) : w ≠ 0 := by
  unfold rS33 at h
  cases hr : rdS b 33 b.length p with
  | ok n q =>
    rw [hr] at h
    simp only at h
    split at h
    · cases h; decide
    · split at h
      · cases h; decide
      · cases h
  | err c e => rw [hr] at h; cases h; exact uab hr
theorem uh9 {b : List UInt8} {p a w : Nat} (h : rHeap b p = .err a w) : w ≠ 0 := by
  unfold rHeap at h
  split at h
  · split at h
    · cases h
    · exact uqr h
  · cases h; decide
theorem uk5 {b : List UInt8} {p a w : Nat} (h : rVal b p = .err a w) : w ≠ 0 := by
  unfold rVal at h
  split at h
  · rename_i hp
    split at h
    · cases h; decide
    · split at h
      · cases h
      · unfold rRef at h
        rw [if_pos hp] at h
        simp only at h
        split at h
        · cases h
        · split at h
          · cases h; decide
          · cases hr : rHeap b (p + 1) with
            | ok n q => rw [hr] at h; cases h
            | err c e => rw [hr] at h; cases h; exact uh9 hr
  · cases h; decide
theorem uit {b : List UInt8} {p a w : Nat} (h : rBlock b p = .err a w) : w ≠ 0 := by
  unfold rBlock at h
  split at h
  · split at h
    · cases h
    · split at h
      · cases hr : rVal b p with
        | ok v q => rw [hr] at h; cases h
        | err c e => rw [hr] at h; cases h; exact uk5 hr
      · cases hr : rS33 b p with
        | ok v q => rw [hr] at h; cases h
        | err c e => rw [hr] at h; cases h; exact uqr hr
  · cases h; decide
theorem uw5 {b : List UInt8} {p a w : Nat} (h : rBlock b p = .err a w) : w ≠ 0 := uit h
theorem and63 {n : Nat} (h : n < 128) : IntKind.u32.wrap ((BitVec.ofInt IntKind.u32.bits (n : Int) &&& BitVec.ofInt IntKind.u32.bits 63).toNat : Int) = ((n % 64 : Nat) : Int) := by
  have e : (63 : Int) = ((63 : Nat) : Int) := rfl
  have h2 := bv_and (w := 32) (a := n) (b := 63) (by omega) (by decide)
  rw [show IntKind.u32.bits = 32 from rfl, e, h2, Nat.and_two_pow_sub_one_eq_mod n 6]
  exact w_u32 (by omega)
theorem uux (hb : b.length < 2 ^ 61) (hp : p ≤ b.length) (hc : c < List.length H) : runK c (C u3f [.ptr c 0]) (St H c (.cells [BS z b, .int .i64 p, m0, m1, m2, m3, m4, m5, m6, m7, m8, m9, m10, m11, m12, m13, m14, m15, m16, .int .i64 bad, .int .i64 why]) L) = some (.ok (.tup []) (St H c (.cells [BS z b, .int .i64 ((tk (⟨0, ⟨0, false, 0⟩⟩ : BK) (rBlock b) ⟨p, bad, why⟩).2.p : Nat), m0, m1, m2, m3, m4, m5, m6, .int .i64 (tk (⟨0, ⟨0, false, 0⟩⟩ : BK) (rBlock b) ⟨p, bad, why⟩).1.ty, .int .i64 (tk (⟨0, ⟨0, false, 0⟩⟩ : BK) (rBlock b) ⟨p, bad, why⟩).1.res.num, .bool (tk (⟨0, ⟨0, false, 0⟩⟩ : BK) (rBlock b) ⟨p, bad, why⟩).1.res.nul, .int .i64 (tk (⟨0, ⟨0, false, 0⟩⟩ : BK) (rBlock b) ⟨p, bad, why⟩).1.res.heap, m11, m12, m13, m14, m15, m16, .int .i64 ((tk (⟨0, ⟨0, false, 0⟩⟩ : BK) (rBlock b) ⟨p, bad, why⟩).2.bad : Nat), .int .i64 ((tk (⟨0, ⟨0, false, 0⟩⟩ : BK) (rBlock b) ⟨p, bad, why⟩).2.why : Nat)]) L)) := liftT (fun H hc => by
  have hcl : ∀ K, run (callV P C (.fn u5x [] []) [BS z b, .int .i64 p]) K = some (.ok (outR encB (encB ⟨0, ⟨0, false, 0⟩⟩) (rBlock b p)) K) := fun K => by
    rw [u46]
    have := ujs (H := K) (z := z) hb (at_ := (p : Int))
    unfold atPl at this
    rw [if_neg (by omega), Int.toNat_natCast] at this
    exact this
  have ht := ugt (c := c) (H := H) (f := .fn u5x [] []) (r := rBlock b) (b := b) (z := z) (p := p) (bad := bad) (why := why) (m0 := m0) (m1 := m1) (m2 := m2) (m3 := m3) (m4 := m4) (m5 := m5) (m6 := m6) (m7 := m7) (m8 := m8) (m9 := m9) (m10 := m10) (m11 := m11) (m12 := m12) (m13 := m13) (m14 := m14) (m15 := m15) (m16 := m16) rfl (fun a w h => uw5 h) hc (fun K v q h => by rw [hcl, h]; rfl) (fun K a w h => by rw [hcl, h]; rfl)
  rw [ub2]
  simp +contextual -dsimp (disch := omega) only [↓kDown, kUp, ↓goDown, goUp, cr, simprocAttr, ht, TS.eta]) hc
theorem ap_ref {l : List VT} {K : Heap} {nul : Bool} {h : Int} (hl : l.length < 1048576) : run (ap true 3 24 (accP 3 (l.map encV)) (.slice true false 3 [.agg [.int .i64 5, .bool nul, .int .i64 h]])) K = some (.ok (accP 3 ((l ++ [(⟨5, nul, h⟩ : VT)]).map encV)) K) := by
  have := ap_acc (H := K) (sz := 3) (b := 24) (l := l.map encV) (v := encV ⟨5, nul, h⟩) (o := true) (by rw [List.length_map]; show (l.length + 1) * 24 ≤ _; omega)
  rw [List.map_append]
  exact this
theorem stripC_accP {sz : Nat} {l : List PV} : isCell (accP sz l) = true ∧ (accP sz l).cells = [accP sz l] ∧ ∀ n, (accP sz l).low n = true := by
  cases l <;> exact ⟨rfl, rfl, fun n => by simp [accP, u7q]⟩
theorem u2l {sz : Nat} {l : List PV} : isCell (accP sz l) = true := stripC_accP.1
theorem u3m {sz : Nat} {l : List PV} : (accP sz l).cells = [accP sz l] := stripC_accP.2.1
theorem low_Pa {sz n : Nat} {l : List PV} : (accP sz l).low n = true := stripC_accP.2.2 n
theorem bsR_V {nul : Bool} {h : Int} {K : Heap} : bsR true (some 3) [.agg [.int .i64 5, .bool nul, .int .i64 h]] K = some (.ok (.slice true false 3 [.agg [.int .i64 5, .bool nul, .int .i64 h]]) K) := nrfl rfl
theorem irefS {l : List VT} {nul : Bool} (hl : l.length < 1000000) (hb : b.length < 2 ^ 61) (hp : p ≤ b.length) (hc : c < List.length H) : runK c (C u48 [.ptr c 0, .bool nul]) (St H c (.cells [BS z b, .int .i64 p, m0, m1, m2, m3, m4, m5, m6, m7, m8, m9, m10, m11, m12, m13, m14, accP 3 (l.map encV), m16, .int .i64 bad, .int .i64 why]) L) = some (.ok (.tup []) (St H c (.cells [BS z b, .int .i64 ((tk (0 : Int) (rHeap b) ⟨p, bad, why⟩).2.p : Nat), m0, m1, m2, m3, m4, m5, m6, m7, m8, m9, m10, m11, m12, m13, m14, accP 3 ((l ++ [(⟨5, nul, (tk (0 : Int) (rHeap b) ⟨p, bad, why⟩).1⟩ : VT)]).map encV), m16, .int .i64 ((tk (0 : Int) (rHeap b) ⟨p, bad, why⟩).2.bad : Nat), .int .i64 ((tk (0 : Int) (rHeap b) ⟨p, bad, why⟩).2.why : Nat)]) L)) := liftT (fun H hc => by
  have hcl : ∀ K, run (callV P C (.fn u67 [] []) [BS z b, .int .i64 p]) K = some (.ok (outR (fun x : Int => .int .i64 x) (.int .i64 0) (rHeap b p)) K) := fun K => by
    rw [u46]
    have := uml (H := K) (z := z) hb (at_ := (p : Int))
    unfold atPl at this
    rw [if_neg (by omega), Int.toNat_natCast] at this
    exact this
  have ht := uum (c := c) (H := H) (f := .fn u67 [] []) (r := rHeap b) (b := b) (z := z) (p := p) (bad := bad) (why := why) (m0 := m0) (m1 := m1) (m2 := m2) (m3 := m3) (m4 := m4) (m5 := m5) (m6 := m6) (m7 := m7) (m8 := m8) (m9 := m9) (m10 := m10) (m11 := m11) (m12 := m12) (m13 := m13) (m14 := m14) (m15 := accP 3 (l.map encV)) (m16 := m16) rfl (fun a w h => uh9 h) hc (fun v q h => by rw [hcl, h]; rfl) (fun a w h => by rw [hcl, h]; rfl)
  rw [ud1]
  simp +contextual -dsimp (disch := omega) only [↓kDown, kUp, ↓goDown, goUp, cr, simprocAttr, ht, bsR_V, ap_ref, u2l, u3m, low_Pa, TS.eta]) hc
end Go.Proofs.YthidcpkcfoldmaaGreat.Pi.Q
namespace Go.Proofs.YthidcpkcfoldmaaGreat.Pi.Q
open Go Go.Proofs.YthidcpkcfoldmaaGreat.Pi
attribute [local congr] ite_congr
variable {c : Nat} {H : Heap} {L : List Box} {b : List UInt8} {z : Bool} {p bad why : Nat} {m0 m1 m2 m3 m4 m5 m6 m7 m8 m9 m10 m11 m12 m13 m14 m15 m16 : PV}
theorem andi1 (n : Int) : IntKind.i64.wrap ((BitVec.ofInt IntKind.i64.bits n &&& BitVec.ofInt IntKind.i64.bits 1).toNat : Int) = n % 2 := by
  have h : (BitVec.ofInt IntKind.i64.bits n &&& BitVec.ofInt IntKind.i64.bits 1).toNat = (n % 2).toNat := by
    rw [BitVec.toNat_and, BitVec.toNat_ofInt, BitVec.toNat_ofInt, show IntKind.i64.bits = 64 from rfl]
    rw [show ((1 : Int) % ((2 ^ 64 : Nat) : Int)).toNat = 2 ^ 1 - 1 from rfl, Nat.and_two_pow_sub_one_eq_mod]
    omega
  rw [h, Int.toNat_of_nonneg (by omega)]
  exact w_i64 (by omega)
theorem land1 : ∀ n ∈ List.range 256, (n &&& 1) = n % 2 := by decide +kernel
theorem land2 : ∀ n ∈ List.range 256, (n &&& 2) = n / 2 % 2 * 2 := by decide +kernel
theorem and1b {n : Nat} (h : n < 256) : IntKind.u8.wrap ((BitVec.ofInt IntKind.u8.bits (n : Int) &&& BitVec.ofInt IntKind.u8.bits 1).toNat : Int) = ((n % 2 : Nat) : Int) := by
  have e : (1 : Int) = ((1 : Nat) : Int) := rfl
  have h2 := bv_and (w := 8) (a := n) (b := 1) h (by decide)
  rw [show IntKind.u8.bits = 8 from rfl, e, h2, land1 n (List.mem_range.mpr h)]
  exact w_u8 (by omega)
theorem and2b {n : Nat} (h : n < 256) : IntKind.u8.wrap ((BitVec.ofInt IntKind.u8.bits (n : Int) &&& BitVec.ofInt IntKind.u8.bits 2).toNat : Int) = ((n / 2 % 2 * 2 : Nat) : Int) := by
  have e : (2 : Int) = ((2 : Nat) : Int) := rfl
  have h2 := bv_and (w := 8) (a := n) (b := 2) h (by decide)
  rw [show IntKind.u8.bits = 8 from rfl, e, h2, land2 n (List.mem_range.mpr h)]
  exact w_u8 (by omega)
theorem smT_lt {most : Nat} {t : TS} : (smT b most t).1 < 256 := by
  have hc : (b.getD t.p 0).toNat < 256 := UInt8.toNat_lt _
  unfold smT
  split
  · split
    · split <;> exact hc
    · exact (by decide : (0 : Nat) < 256)
  · exact (by decide : (0 : Nat) < 256)
theorem uv4 (k : Nat) : (((k : Nat) : Int) != 0) = (k != 0) := by
  rw [Bool.eq_iff_iff]
  simp only [bne_iff_ne, ne_eq]
  omega
theorem tk_why {α : Type} {zero : α} {r : Nat → Rs α} {t : TS} (h : (tk zero r t).2.why ≠ 0) : (tk zero r t).1 = zero := by
  unfold tk at h ⊢
  split
  · rename_i h0
    rw [if_pos h0] at h
    cases hr : r t.p with
    | ok v q => rw [hr] at h; exact absurd rfl h
    | err a w => rfl
  · rfl
theorem upT_lt {most e : Nat} {t : TS} : (upT b most e t).1 ≤ most := by
  unfold upT
  split
  · exact Nat.zero_le _
  · rename_i h
    by_cases h0 : (tk (0 : Nat) (rdU b 32 b.length) t).2.why = 0
    · exact Nat.le_of_not_lt fun h2 => h ⟨h0, h2⟩
    · rw [tk_why h0]; exact Nat.zero_le _
theorem tkH_le {t : TS} (ht : t.p ≤ b.length) : (tk (0 : Int) (rHeap b) t).2.p ≤ b.length := tk_le (fun v q h => (uqb h).1) ht
theorem iheapS {l : List VT} (hl : l.length < 1000000) (hb : b.length < 2 ^ 61) (hp : p ≤ b.length) (hc : c < List.length H) : runK c (C u4v [.ptr c 0]) (St H c (.cells [BS z b, .int .i64 p, m0, m1, m2, m3, m4, m5, m6, m7, m8, m9, m10, m11, m12, m13, m14, accP 3 (l.map encV), m16, .int .i64 bad, .int .i64 why]) L) = some (.ok (.tup []) (St H c (.cells [BS z b, .int .i64 ((tk (0 : Int) (rHeap b) ⟨p, bad, why⟩).2.p : Nat), m0, m1, m2, m3, m4, m5, m6, m7, m8, m9, m10, m11, m12, m13, m14, accP 3 ((l ++ [(⟨5, true, (tk (0 : Int) (rHeap b) ⟨p, bad, why⟩).1⟩ : VT)]).map encV), m16, .int .i64 ((tk (0 : Int) (rHeap b) ⟨p, bad, why⟩).2.bad : Nat), .int .i64 ((tk (0 : Int) (rHeap b) ⟨p, bad, why⟩).2.why : Nat)]) L)) := liftT (fun H hc => by
  have hr := fun L => irefS (c := c) (H := H) (L := L) (b := b) (z := z) (l := l) (nul := true) (m0 := m0) (m1 := m1) (m2 := m2) (m3 := m3) (m4 := m4) (m5 := m5) (m6 := m6) (m7 := m7) (m8 := m8) (m9 := m9) (m10 := m10) (m11 := m11) (m12 := m12) (m13 := m13) (m14 := m14) (m16 := m16) (p := p) (bad := bad) (why := why) hl hb hp hc
  rw [uc9]
  simp +contextual -dsimp (disch := omega) only [↓kDown, kUp, ↓goDown, goUp, cr, simprocAttr, hr, TS.eta]) hc
theorem icastS {op : Int} {l : List VT} (hl : l.length < 1000000) (hb : b.length < 2 ^ 61) (hp : p ≤ b.length) (hc : c < List.length H) : runK c (C u4w [.ptr c 0]) (St H c (.cells [BS z b, .int .i64 p, .int .i64 op, m1, m2, m3, m4, m5, m6, m7, m8, m9, m10, m11, m12, m13, m14, accP 3 (l.map encV), m16, .int .i64 bad, .int .i64 why]) L) = some (.ok (.tup []) (St H c (.cells [BS z b, .int .i64 ((tk (0 : Int) (rHeap b) ⟨p, bad, why⟩).2.p : Nat), .int .i64 op, m1, m2, m3, m4, m5, m6, m7, m8, m9, m10, m11, m12, m13, m14, accP 3 ((l ++ [(⟨5, (op % 2 == 1), (tk (0 : Int) (rHeap b) ⟨p, bad, why⟩).1⟩ : VT)]).map encV), m16, .int .i64 ((tk (0 : Int) (rHeap b) ⟨p, bad, why⟩).2.bad : Nat), .int .i64 ((tk (0 : Int) (rHeap b) ⟨p, bad, why⟩).2.why : Nat)]) L)) := liftT (fun H hc => by
  have ha := andi1 op
  have hr := fun L => irefS (c := c) (H := H) (L := L) (b := b) (z := z) (l := l) (nul := (op % 2 == 1)) (m0 := .int .i64 op) (m1 := m1) (m2 := m2) (m3 := m3) (m4 := m4) (m5 := m5) (m6 := m6) (m7 := m7) (m8 := m8) (m9 := m9) (m10 := m10) (m11 := m11) (m12 := m12) (m13 := m13) (m14 := m14) (m16 := m16) (p := p) (bad := bad) (why := why) hl hb hp hc
  rw [ucf]
  simp +contextual -dsimp (disch := omega) only [↓kDown, kUp, ↓goDown, goUp, cr, simprocAttr, u8k, ha, hr, TS.eta]) hc
theorem ux8 {l : List VT} (hl : l.length < 999999) (hb : b.length < 2 ^ 61) (hp : p ≤ b.length) (hc : c < List.length H) : runK c (C u44 [.ptr c 0]) (St H c (.cells [BS z b, .int .i64 p, m0, m1, m2, m3, m4, m5, m6, m7, m8, m9, m10, m11, m12, m13, m14, accP 3 (l.map encV), m16, .int .i64 bad, .int .i64 why]) L) = some (.ok (.tup []) (St H c (.cells [BS z b, .int .i64 ((tk (0 : Int) (rHeap b) (tk (0 : Int) (rHeap b) (tk (0 : Nat) (rdU b 32 b.length) (smT b 3 ⟨p, bad, why⟩).2).2).2).2.p : Nat), m0, .int .u32 ((tk (0 : Nat) (rdU b 32 b.length) (smT b 3 ⟨p, bad, why⟩).2).1 : Nat), m2, m3, m4, m5, m6, m7, m8, m9, m10, m11, m12, m13, m14, accP 3 ((l ++ [(⟨5, ((smT b 3 ⟨p, bad, why⟩).1 % 2 != 0), (tk (0 : Int) (rHeap b) (tk (0 : Nat) (rdU b 32 b.length) (smT b 3 ⟨p, bad, why⟩).2).2).1⟩ : VT)] ++ [(⟨5, ((smT b 3 ⟨p, bad, why⟩).1 / 2 % 2 * 2 != 0), (tk (0 : Int) (rHeap b) (tk (0 : Int) (rHeap b) (tk (0 : Nat) (rdU b 32 b.length) (smT b 3 ⟨p, bad, why⟩).2).2).2).1⟩ : VT)]).map encV), m16, .int .i64 ((tk (0 : Int) (rHeap b) (tk (0 : Int) (rHeap b) (tk (0 : Nat) (rdU b 32 b.length) (smT b 3 ⟨p, bad, why⟩).2).2).2).2.bad : Nat), .int .i64 ((tk (0 : Int) (rHeap b) (tk (0 : Int) (rHeap b) (tk (0 : Nat) (rdU b 32 b.length) (smT b 3 ⟨p, bad, why⟩).2).2).2).2.why : Nat)]) L)) := liftT (fun H hc => by
  have hs := fun L => ukh (c := c) (H := H) (L := L) (b := b) (z := z) (p := p) (bad := bad) (why := why) (most := 3) (m0 := m0) (m1 := m1) (m2 := m2) (m3 := m3) (m4 := m4) (m5 := m5) (m6 := m6) (m7 := m7) (m8 := m8) (m9 := m9) (m10 := m10) (m11 := m11) (m12 := m12) (m13 := m13) (m14 := m14) (m15 := accP 3 (l.map encV)) (m16 := m16) hb hc
  have s1 : (smT b 3 ⟨p, bad, why⟩).2.p ≤ b.length := smT_le hp
  have sl : (smT b 3 ⟨p, bad, why⟩).1 < 256 := smT_lt
  have hx := fun L => ixS (c := c) (H := H) (L := L) (b := b) (z := z) (p := (smT b 3 ⟨p, bad, why⟩).2.p) (bad := (smT b 3 ⟨p, bad, why⟩).2.bad) (why := (smT b 3 ⟨p, bad, why⟩).2.why) (m0 := m0) (m1 := m1) (m2 := m2) (m3 := m3) (m4 := m4) (m5 := m5) (m6 := m6) (m7 := m7) (m8 := m8) (m9 := m9) (m10 := m10) (m11 := m11) (m12 := m12) (m13 := m13) (m14 := m14) (m15 := accP 3 (l.map encV)) (m16 := m16) hb s1 hc
  have x1 : (tk (0 : Nat) (rdU b 32 b.length) (smT b 3 ⟨p, bad, why⟩).2).2.p ≤ b.length := tkU_le s1
  have h1 : (tk (0 : Int) (rHeap b) (tk (0 : Nat) (rdU b 32 b.length) (smT b 3 ⟨p, bad, why⟩).2).2).2.p ≤ b.length := tkH_le x1
  have a1 := and1b sl
  have a2 := and2b sl
  have b1 : ((((smT b 3 ⟨p, bad, why⟩).1 % 2 : Nat) : Int) != 0) = ((smT b 3 ⟨p, bad, why⟩).1 % 2 != 0) := uv4 _
  have b2 : ((((smT b 3 ⟨p, bad, why⟩).1 / 2 % 2 * 2 : Nat) : Int) != 0) = ((smT b 3 ⟨p, bad, why⟩).1 / 2 % 2 * 2 != 0) := uv4 _
  have hr1 := fun L => irefS (c := c) (H := H) (L := L) (b := b) (z := z) (l := l) (nul := ((smT b 3 ⟨p, bad, why⟩).1 % 2 != 0)) (m0 := m0) (m1 := .int .u32 ((tk (0 : Nat) (rdU b 32 b.length) (smT b 3 ⟨p, bad, why⟩).2).1 : Nat)) (m2 := m2) (m3 := m3) (m4 := m4) (m5 := m5) (m6 := m6) (m7 := m7) (m8 := m8) (m9 := m9) (m10 := m10) (m11 := m11) (m12 := m12) (m13 := m13) (m14 := m14) (m16 := m16) (p := (tk (0 : Nat) (rdU b 32 b.length) (smT b 3 ⟨p, bad, why⟩).2).2.p) (bad := (tk (0 : Nat) (rdU b 32 b.length) (smT b 3 ⟨p, bad, why⟩).2).2.bad) (why := (tk (0 : Nat) (rdU b 32 b.length) (smT b 3 ⟨p, bad, why⟩).2).2.why) (by omega) hb x1 hc
  have hr2 := fun L => irefS (c := c) (H := H) (L := L) (b := b) (z := z) (l := (l ++ [(⟨5, ((smT b 3 ⟨p, bad, why⟩).1 % 2 != 0), (tk (0 : Int) (rHeap b) (tk (0 : Nat) (rdU b 32 b.length) (smT b 3 ⟨p, bad, why⟩).2).2).1⟩ : VT)])) (nul := ((smT b 3 ⟨p, bad, why⟩).1 / 2 % 2 * 2 != 0)) (m0 := m0) (m1 := .int .u32 ((tk (0 : Nat) (rdU b 32 b.length) (smT b 3 ⟨p, bad, why⟩).2).1 : Nat)) (m2 := m2) (m3 := m3) (m4 := m4) (m5 := m5) (m6 := m6) (m7 := m7) (m8 := m8) (m9 := m9) (m10 := m10) (m11 := m11) (m12 := m12) (m13 := m13) (m14 := m14) (m16 := m16) (p := (tk (0 : Int) (rHeap b) (tk (0 : Nat) (rdU b 32 b.length) (smT b 3 ⟨p, bad, why⟩).2).2).2.p) (bad := (tk (0 : Int) (rHeap b) (tk (0 : Nat) (rdU b 32 b.length) (smT b 3 ⟨p, bad, why⟩).2).2).2.bad) (why := (tk (0 : Int) (rHeap b) (tk (0 : Nat) (rdU b 32 b.length) (smT b 3 ⟨p, bad, why⟩).2).2).2.why) (by rw [List.length_append, List.length_cons, List.length_nil]; omega) hb h1 hc
  rw [show ((3 : Nat) : Int) = 3 from rfl] at hs
  rw [uaq]
  simp +contextual -dsimp (disch := omega) only [↓kDown, kUp, ↓goDown, goUp, cr, simprocAttr, hs, hx, u8k, a1, a2, b1, b2, hr1, hr2, TS.eta]) hc
def memT (b : List UInt8) (t : TS) : TS := if 63 < (upT b 127 4 t).1 then (tk (0 : Nat) (rdU b 32 b.length) (upT b 127 4 t).2).2 else (upT b 127 4 t).2
def memM (b : List UInt8) (t : TS) (m : PV) : PV := if 63 < (upT b 127 4 t).1 then .int .u32 ((tk (0 : Nat) (rdU b 32 b.length) (upT b 127 4 t).2).1 : Nat) else m
theorem imemS (hb : b.length < 2 ^ 61) (hp : p ≤ b.length) (hc : c < List.length H) : runK c (C u49 [.ptr c 0]) (St H c (.cells [BS z b, .int .i64 p, m0, m1, m2, m3, m4, m5, m6, m7, m8, m9, m10, m11, m12, m13, m14, m15, m16, .int .i64 bad, .int .i64 why]) L) = some (.ok (.tup []) (St H c (.cells [BS z b, .int .i64 ((tk (0 : Nat) (rdU b 64 b.length) (memT b ⟨p, bad, why⟩)).2.p : Nat), m0, m1, m2, m3, .int .u32 ((upT b 127 4 ⟨p, bad, why⟩).1 % 64 : Nat), memM b ⟨p, bad, why⟩ m5, .int .u64 ((tk (0 : Nat) (rdU b 64 b.length) (memT b ⟨p, bad, why⟩)).1 : Nat), m7, m8, m9, m10, m11, m12, m13, m14, m15, m16, .int .i64 ((tk (0 : Nat) (rdU b 64 b.length) (memT b ⟨p, bad, why⟩)).2.bad : Nat), .int .i64 ((tk (0 : Nat) (rdU b 64 b.length) (memT b ⟨p, bad, why⟩)).2.why : Nat)]) L)) := liftT (fun H hc => by
  have hu := fun L => iupToS (c := c) (H := H) (L := L) (b := b) (z := z) (p := p) (bad := bad) (why := why) (most := 127) (e := 4) (m0 := m0) (m1 := m1) (m2 := m2) (m3 := m3) (m4 := m4) (m5 := m5) (m6 := m6) (m7 := m7) (m8 := m8) (m9 := m9) (m10 := m10) (m11 := m11) (m12 := m12) (m13 := m13) (m14 := m14) (m15 := m15) (m16 := m16) (by decide) hb hp hc
  rw [show ((127 : Nat) : Int) = 127 from rfl, show ((4 : Nat) : Int) = 4 from rfl] at hu
  have u1 : (upT b 127 4 ⟨p, bad, why⟩).2.p ≤ b.length := upT_le hp
  have ul : (upT b 127 4 ⟨p, bad, why⟩).1 ≤ 127 := upT_lt
  have ha := and63 (n := (upT b 127 4 ⟨p, bad, why⟩).1) (by omega)
  have hbd := fun bx => ugu (g := u6v) (K := St H c bx [])
  simp only [len_S0, add_S0] at hbd
  have hx := fun (m4 : PV) L => iu32S (c := c) (H := H) (L := L) (b := b) (z := z) (p := (upT b 127 4 ⟨p, bad, why⟩).2.p) (bad := (upT b 127 4 ⟨p, bad, why⟩).2.bad) (why := (upT b 127 4 ⟨p, bad, why⟩).2.why) (m4 := m4) (m0 := m0) (m1 := m1) (m2 := m2) (m3 := m3) (m5 := m5) (m6 := m6) (m7 := m7) (m8 := m8) (m9 := m9) (m10 := m10) (m11 := m11) (m12 := m12) (m13 := m13) (m14 := m14) (m15 := m15) (m16 := m16) hb u1 hc
  have x1 : (tk (0 : Nat) (rdU b 32 b.length) (upT b 127 4 ⟨p, bad, why⟩).2).2.p ≤ b.length := tkU_le u1
  rw [ud4]
  unfold memM memT
  by_cases h : 63 < (upT b 127 4 ⟨p, bad, why⟩).1
  · have h' : (63 : Int) < (((upT b 127 4 ⟨p, bad, why⟩).1 : Nat) : Int) := by omega
    have ht := upp (c := c) (H := H) (b := b) (z := z) (p := (tk (0 : Nat) (rdU b 32 b.length) (upT b 127 4 ⟨p, bad, why⟩).2).2.p) (bad := (tk (0 : Nat) (rdU b 32 b.length) (upT b 127 4 ⟨p, bad, why⟩).2).2.bad) (why := (tk (0 : Nat) (rdU b 32 b.length) (upT b 127 4 ⟨p, bad, why⟩).2).2.why) (m0 := m0) (m1 := m1) (m2 := m2) (m3 := m3) (m4 := .int .u32 ((upT b 127 4 ⟨p, bad, why⟩).1 % 64 : Nat)) (m5 := .int .u32 ((tk (0 : Nat) (rdU b 32 b.length) (upT b 127 4 ⟨p, bad, why⟩).2).1 : Nat)) (m6 := m6) (m7 := m7) (m8 := m8) (m9 := m9) (m10 := m10) (m11 := m11) (m12 := m12) (m13 := m13) (m14 := m14) (m15 := m15) (m16 := m16) hb x1 hc
    simp only [if_pos h]
    simp +contextual -dsimp (disch := omega) only [↓kDown, kUp, ↓goDown, goUp, cr, simprocAttr, hu, u8k, ha, eq_true h', hx, u76, toK (m := C u22 [.fn u6v [] []]), hbd, ht, TS.eta]
  · have h' : ¬ (63 : Int) < (((upT b 127 4 ⟨p, bad, why⟩).1 : Nat) : Int) := by omega
    have ht := upp (c := c) (H := H) (b := b) (z := z) (p := (upT b 127 4 ⟨p, bad, why⟩).2.p) (bad := (upT b 127 4 ⟨p, bad, why⟩).2.bad) (why := (upT b 127 4 ⟨p, bad, why⟩).2.why) (m0 := m0) (m1 := m1) (m2 := m2) (m3 := m3) (m4 := .int .u32 ((upT b 127 4 ⟨p, bad, why⟩).1 % 64 : Nat)) (m5 := m5) (m6 := m6) (m7 := m7) (m8 := m8) (m9 := m9) (m10 := m10) (m11 := m11) (m12 := m12) (m13 := m13) (m14 := m14) (m15 := m15) (m16 := m16) hb u1 hc
    simp only [if_neg h]
    simp +contextual -dsimp (disch := omega) only [↓kDown, kUp, ↓goDown, goUp, cr, simprocAttr, hu, u8k, ha, h', u76, toK (m := C u22 [.fn u6v [] []]), hbd, ht, TS.eta]) hc
end Go.Proofs.YthidcpkcfoldmaaGreat.Pi.Q
namespace Go.Proofs.YthidcpkcfoldmaaGreat.Pi.Q
open Go Go.Proofs.YthidcpkcfoldmaaGreat.Pi
attribute [local congr] ite_congr
variable {c : Nat} {H : Heap} {L : List Box} {b : List UInt8} {z : Bool} {p bad why : Nat} {m0 m1 m2 m3 m4 m5 m6 m7 m8 m9 m10 m11 m12 m13 m14 m15 m16 : PV}
theorem uhl {m : M PV} {K : Heap} {v : PV} (h : runK c m H = some (.ok v K)) : run m H = some (.ok v K) := by
  unfold runK at h
  cases hr : run m H with
  | none => rw [hr] at h; cases h
  | some q => cases q with
    | ok v' K' => rw [hr] at h; exact h
    | pan v' K' => rw [hr] at h; cases h
def encN (n : Nat) : PV := .int .u32 n
def repT {α : Type} (one : TS → α × TS) : Nat → List α → TS → (List α × TS) × Bool
  | 0, l, t => ((l, t), false)
  | k + 1, l, t => if (one t).2.why = 0 then repT one k (l ++ [(one t).1]) (one t).2 else ((l ++ [(one t).1], (one t).2), true)
def labR (b : List UInt8) (n : Nat) (l : List Nat) (t : TS) : (List Nat × TS) × Bool := repT (tk (0 : Nat) (rdU b 32 b.length)) n l t
def tabT (b : List UInt8) (n : Nat) (l : List Nat) (t : TS) : TS := if (labR b n l t).2 = true then (labR b n l t).1.2 else (tk (0 : Nat) (rdU b 32 b.length) (labR b n l t).1.2).2
def tabM (b : List UInt8) (n : Nat) (l : List Nat) (t : TS) (m : PV) : PV := if (labR b n l t).2 = true then m else .int .u32 ((tk (0 : Nat) (rdU b 32 b.length) (labR b n l t).1.2).1 : Nat)
theorem ap_lab {l : List Nat} {K : Heap} {n : Nat} (hl : l.length < 1048576) : run (ap true 1 4 (accP 1 (l.map encN)) (.slice true false 1 [.int .u32 n])) K = some (.ok (accP 1 ((l ++ [n]).map encN)) K) := by
  have := ap_acc (H := K) (sz := 1) (b := 4) (l := l.map encN) (v := encN n) (o := true) (by rw [List.length_map]; show (l.length + 1) * 4 ≤ _; omega)
  rw [List.map_append]
  exact this
theorem bsR_n {n : Nat} {K : Heap} : bsR true none [.int .u32 n] K = some (.ok (.slice true false 1 [.int .u32 n]) K) := nrfl rfl
theorem ug1 {n : Nat} (hb : b.length < 2 ^ 61) (hn : n ≤ 65536) (hc : c < List.length H) : ∀ (m i : Nat) (la : List Nat) (p bad why : Nat), i + m = n → la.length + m ≤ 100000 → p ≤ b.length →
    runK c (u4a (.ptr c 0) (.int .u32 n) (.int .u32 i)) (St H c (.cells [BS z b, .int .i64 p, m0, m1, m2, m3, m4, m5, m6, m7, m8, m9, m10, m11, m12, m13, accP 1 (la.map encN), m15, m16, .int .i64 bad, .int .i64 why]) []) = some (.ok (.tup []) (St H c (.cells [BS z b, .int .i64 ((tabT b m la ⟨p, bad, why⟩).p : Nat), m0, tabM b m la ⟨p, bad, why⟩ m1, m2, m3, m4, m5, m6, m7, m8, m9, m10, m11, m12, m13, accP 1 ((labR b m la ⟨p, bad, why⟩).1.1.map encN), m15, m16, .int .i64 ((tabT b m la ⟨p, bad, why⟩).bad : Nat), .int .i64 ((tabT b m la ⟨p, bad, why⟩).why : Nat)]) []))
  | 0, i, la, p, bad, why, hi, hl, hp => by
    have c1 : ¬ (i : Int) < (n : Int) := by omega
    have hx := fun L => ixS (c := c) (H := H) (L := L) (b := b) (z := z) (p := p) (bad := bad) (why := why) (m0 := m0) (m1 := m1) (m2 := m2) (m3 := m3) (m4 := m4) (m5 := m5) (m6 := m6) (m7 := m7) (m8 := m8) (m9 := m9) (m10 := m10) (m11 := m11) (m12 := m12) (m13 := m13) (m14 := accP 1 (la.map encN)) (m15 := m15) (m16 := m16) hb hp hc
    rw [u6n]
    unfold tabT tabM labR
    simp only [repT, Bool.false_eq_true, ↓reduceIte]
    simp +contextual -dsimp (disch := omega) only [↓kDown, kUp, ↓goDown, goUp, cr, simprocAttr, c1, hx, TS.eta]
  | m + 1, i, la, p, bad, why, hi, hl, hp => by
    have c1 : (i : Int) < (n : Int) := by omega
    have e1 : ((i : Int) + 1) = ((i + 1 : Nat) : Int) := rfl
    have hw : IntKind.u32.wrap ((i + 1 : Nat) : Int) = ((i + 1 : Nat) : Int) := w_u32 (by omega)
    have hu := fun (m14 : PV) L => iu32S (c := c) (H := H) (L := L) (b := b) (z := z) (p := p) (bad := bad) (why := why) (m0 := m0) (m1 := m1) (m2 := m2) (m3 := m3) (m4 := m4) (m5 := m5) (m6 := m6) (m7 := m7) (m8 := m8) (m9 := m9) (m10 := m10) (m11 := m11) (m12 := m12) (m13 := m13) (m14 := m14) (m15 := m15) (m16 := m16) hb hp hc
    have hv := fun (m14 : PV) L => uhl (hu m14 L)
    have x1 : (tk (0 : Nat) (rdU b 32 b.length) ⟨p, bad, why⟩).2.p ≤ b.length := tkU_le hp
    rw [u6n]
    by_cases hy : (tk (0 : Nat) (rdU b 32 b.length) ⟨p, bad, why⟩).2.why = 0
    · have ih := ug1 hb hn hc m (i + 1) (la ++ [(tk (0 : Nat) (rdU b 32 b.length) ⟨p, bad, why⟩).1]) (tk (0 : Nat) (rdU b 32 b.length) ⟨p, bad, why⟩).2.p (tk (0 : Nat) (rdU b 32 b.length) ⟨p, bad, why⟩).2.bad (tk (0 : Nat) (rdU b 32 b.length) ⟨p, bad, why⟩).2.why (by omega) (by simp; omega) x1
      have er : labR b (m + 1) la ⟨p, bad, why⟩ = labR b m (la ++ [(tk (0 : Nat) (rdU b 32 b.length) ⟨p, bad, why⟩).1]) (tk (0 : Nat) (rdU b 32 b.length) ⟨p, bad, why⟩).2 := by
        unfold labR
        rw [repT, if_pos hy]
      have hy' : (((tk (0 : Nat) (rdU b 32 b.length) ⟨p, bad, why⟩).2.why : Nat) : Int) = 0 := by omega
      unfold tabT tabM at ih ⊢
      rw [TS.eta] at ih
      rw [er]
      simp +contextual -dsimp (disch := omega) only [↓kDown, kUp, ↓goDown, goUp, cr, simprocAttr, c1, hu, hv, bsR_n, ap_lab, u2l, u3m, low_Pa, eq_true hy', e1, hw, ih]
    · have er : labR b (m + 1) la ⟨p, bad, why⟩ = ((la ++ [(tk (0 : Nat) (rdU b 32 b.length) ⟨p, bad, why⟩).1], (tk (0 : Nat) (rdU b 32 b.length) ⟨p, bad, why⟩).2), true) := by
        unfold labR
        rw [repT, if_neg hy]
      have hy' : ((((tk (0 : Nat) (rdU b 32 b.length) ⟨p, bad, why⟩).2.why : Nat) : Int) = 0) = False := eq_false (by omega)
      unfold tabT tabM
      rw [er]
      simp only [↓reduceIte]
      simp +contextual -dsimp (disch := omega) only [↓kDown, kUp, ↓goDown, goUp, cr, simprocAttr, c1, hu, hv, bsR_n, ap_lab, u2l, u3m, low_Pa, hy']
theorem uzj {la : List Nat} (hl : la.length < 1000) (hb : b.length < 2 ^ 61) (hp : p ≤ b.length) (hc : c < List.length H) : runK c (C u3e [.ptr c 0]) (St H c (.cells [BS z b, .int .i64 p, m0, m1, m2, m3, m4, m5, m6, m7, m8, m9, m10, m11, m12, m13, accP 1 (la.map encN), m15, m16, .int .i64 bad, .int .i64 why]) L) = some (.ok (.tup []) (St H c (.cells [BS z b, .int .i64 ((tabT b (upT b 65536 2 ⟨p, bad, why⟩).1 la (upT b 65536 2 ⟨p, bad, why⟩).2).p : Nat), m0, tabM b (upT b 65536 2 ⟨p, bad, why⟩).1 la (upT b 65536 2 ⟨p, bad, why⟩).2 m1, m2, m3, m4, m5, m6, m7, m8, m9, m10, m11, m12, m13, accP 1 ((labR b (upT b 65536 2 ⟨p, bad, why⟩).1 la (upT b 65536 2 ⟨p, bad, why⟩).2).1.1.map encN), m15, m16, .int .i64 ((tabT b (upT b 65536 2 ⟨p, bad, why⟩).1 la (upT b 65536 2 ⟨p, bad, why⟩).2).bad : Nat), .int .i64 ((tabT b (upT b 65536 2 ⟨p, bad, why⟩).1 la (upT b 65536 2 ⟨p, bad, why⟩).2).why : Nat)]) L)) := liftT (fun H hc => by
  have hu := fun L => iupToS (c := c) (H := H) (L := L) (b := b) (z := z) (p := p) (bad := bad) (why := why) (most := 65536) (e := 2) (m0 := m0) (m1 := m1) (m2 := m2) (m3 := m3) (m4 := m4) (m5 := m5) (m6 := m6) (m7 := m7) (m8 := m8) (m9 := m9) (m10 := m10) (m11 := m11) (m12 := m12) (m13 := m13) (m14 := accP 1 (la.map encN)) (m15 := m15) (m16 := m16) (by decide) hb hp hc
  rw [show ((65536 : Nat) : Int) = 65536 from rfl, show ((2 : Nat) : Int) = 2 from rfl] at hu
  have u1 : (upT b 65536 2 ⟨p, bad, why⟩).2.p ≤ b.length := upT_le hp
  have ul : (upT b 65536 2 ⟨p, bad, why⟩).1 ≤ 65536 := upT_lt
  have hlp := ug1 (c := c) (H := H) (z := z) (m0 := m0) (m1 := m1) (m2 := m2) (m3 := m3) (m4 := m4) (m5 := m5) (m6 := m6) (m7 := m7) (m8 := m8) (m9 := m9) (m10 := m10) (m11 := m11) (m12 := m12) (m13 := m13) (m15 := m15) (m16 := m16) (n := (upT b 65536 2 ⟨p, bad, why⟩).1) hb ul hc (upT b 65536 2 ⟨p, bad, why⟩).1 0 la (upT b 65536 2 ⟨p, bad, why⟩).2.p (upT b 65536 2 ⟨p, bad, why⟩).2.bad (upT b 65536 2 ⟨p, bad, why⟩).2.why (by omega) (by omega) u1
  rw [show ((0 : Nat) : Int) = 0 from rfl] at hlp
  simp only [TS.eta] at hlp
  rw [uas]
  simp +contextual -dsimp (disch := omega) only [↓kDown, kUp, ↓goDown, goUp, cr, simprocAttr, hu, hlp]) hc
end Go.Proofs.YthidcpkcfoldmaaGreat.Pi.Q
namespace Go.Proofs.YthidcpkcfoldmaaGreat.Pi.Q
open Go Go.Proofs.YthidcpkcfoldmaaGreat.Pi
attribute [local congr] ite_congr
variable {c : Nat} {H : Heap} {L : List Box} {b : List UInt8} {z : Bool} {p bad why : Nat} {m0 m1 m2 m3 m4 m5 m6 m7 m8 m9 m10 m11 m12 m13 m14 m15 m16 : PV}
def valZ : VT := ⟨0, false, 0⟩
theorem tkV_le {t : TS} (ht : t.p ≤ b.length) : (tk valZ (rVal b) t).2.p ≤ b.length := tk_le (fun v q h => usi h) ht
theorem ap_V {l : List VT} {K : Heap} {v : VT} (hl : l.length < 1048576) : run (ap true 3 24 (accP 3 (l.map encV)) (.slice true false 3 [.agg [.int .i64 v.num, .bool v.nul, .int .i64 v.heap]])) K = some (.ok (accP 3 ((l ++ [v]).map encV)) K) := by
  have := ap_acc (H := K) (sz := 3) (b := 24) (l := l.map encV) (v := encV v) (o := true) (by rw [List.length_map]; show (l.length + 1) * 24 ≤ _; omega)
  rw [List.map_append]
  exact this
theorem bsR_v {v : VT} {K : Heap} : bsR true (some 3) [.agg [.int .i64 v.num, .bool v.nul, .int .i64 v.heap]] K = some (.ok (.slice true false 3 [.agg [.int .i64 v.num, .bool v.nul, .int .i64 v.heap]]) K) := nrfl rfl
def valR (b : List UInt8) (n : Nat) (l : List VT) (t : TS) : (List VT × TS) × Bool := repT (tk valZ (rVal b)) n l t
theorem itookV (hb : b.length < 2 ^ 61) (hp : p ≤ b.length) (hc : c < List.length H) : runK c (C u28 [.ptr c 0, .fn u43 [] []]) (St H c (.cells [BS z b, .int .i64 p, m0, m1, m2, m3, m4, m5, m6, m7, m8, m9, m10, m11, m12, m13, m14, m15, m16, .int .i64 bad, .int .i64 why]) []) = some (.ok (.agg [.int .i64 (tk valZ (rVal b) ⟨p, bad, why⟩).1.num, .bool (tk valZ (rVal b) ⟨p, bad, why⟩).1.nul, .int .i64 (tk valZ (rVal b) ⟨p, bad, why⟩).1.heap]) (St H c (.cells [BS z b, .int .i64 ((tk valZ (rVal b) ⟨p, bad, why⟩).2.p : Nat), m0, m1, m2, m3, m4, m5, m6, m7, m8, m9, m10, m11, m12, m13, m14, m15, m16, .int .i64 ((tk valZ (rVal b) ⟨p, bad, why⟩).2.bad : Nat), .int .i64 ((tk valZ (rVal b) ⟨p, bad, why⟩).2.why : Nat)]) [])) := by
  have hcl : ∀ K, run (callV P C (.fn u43 [] []) [BS z b, .int .i64 p]) K = some (.ok (outR encV (encV ⟨0, false, 0⟩) (rVal b p)) K) := fun K => by
    rw [u46]
    have := ung (H := K) (z := z) hb (at_ := (p : Int))
    unfold atPl at this
    rw [if_neg (by omega), Int.toNat_natCast] at this
    exact this
  exact ue6 (c := c) (H := H) (f := .fn u43 [] []) (r := rVal b) (b := b) (z := z) (p := p) (bad := bad) (why := why) (m0 := m0) (m1 := m1) (m2 := m2) (m3 := m3) (m4 := m4) (m5 := m5) (m6 := m6) (m7 := m7) (m8 := m8) (m9 := m9) (m10 := m10) (m11 := m11) (m12 := m12) (m13 := m13) (m14 := m14) (m15 := m15) (m16 := m16) rfl (fun a w h => uk5 h) hc (fun K v q h => by rw [hcl, h]; rfl) (fun K a w h => by rw [hcl, h]; rfl)
theorem ueq {n : Nat} (hb : b.length < 2 ^ 61) (hn : n ≤ 65536) (hc : c < List.length H) : ∀ (m i : Nat) (l : List VT) (p bad why : Nat), i + m = n → l.length + m ≤ 100000 → p ≤ b.length →
    runK c (u45 (.ptr c 0) (.int .u32 n) (.int .u32 i)) (St H c (.cells [BS z b, .int .i64 p, m0, m1, m2, m3, m4, m5, m6, m7, m8, m9, m10, m11, m12, m13, m14, accP 3 (l.map encV), m16, .int .i64 bad, .int .i64 why]) []) = some (.ok (.tup []) (St H c (.cells [BS z b, .int .i64 ((valR b m l ⟨p, bad, why⟩).1.2.p : Nat), m0, m1, m2, m3, m4, m5, m6, m7, m8, m9, m10, m11, m12, m13, m14, accP 3 ((valR b m l ⟨p, bad, why⟩).1.1.map encV), m16, .int .i64 ((valR b m l ⟨p, bad, why⟩).1.2.bad : Nat), .int .i64 ((valR b m l ⟨p, bad, why⟩).1.2.why : Nat)]) []))
  | 0, i, l, p, bad, why, hi, hl, hp => by
    have c1 : ¬ (i : Int) < (n : Int) := by omega
    rw [u6m]
    unfold valR
    simp only [repT]
    simp +contextual -dsimp (disch := omega) only [↓kDown, kUp, ↓goDown, goUp, cr, simprocAttr, c1]
  | m + 1, i, l, p, bad, why, hi, hl, hp => by
    have c1 : (i : Int) < (n : Int) := by omega
    have e1 : ((i : Int) + 1) = ((i + 1 : Nat) : Int) := rfl
    have hw : IntKind.u32.wrap ((i + 1 : Nat) : Int) = ((i + 1 : Nat) : Int) := w_u32 (by omega)
    have hu := fun (m15 : PV) => itookV (c := c) (H := H) (b := b) (z := z) (p := p) (bad := bad) (why := why) (m0 := m0) (m1 := m1) (m2 := m2) (m3 := m3) (m4 := m4) (m5 := m5) (m6 := m6) (m7 := m7) (m8 := m8) (m9 := m9) (m10 := m10) (m11 := m11) (m12 := m12) (m13 := m13) (m14 := m14) (m15 := m15) (m16 := m16) hb hp hc
    have hv := fun (m15 : PV) => uhl (hu m15)
    have x1 : (tk valZ (rVal b) ⟨p, bad, why⟩).2.p ≤ b.length := tkV_le hp
    rw [u6m]
    by_cases hy : (tk valZ (rVal b) ⟨p, bad, why⟩).2.why = 0
    · have ih := ueq hb hn hc m (i + 1) (l ++ [(tk valZ (rVal b) ⟨p, bad, why⟩).1]) (tk valZ (rVal b) ⟨p, bad, why⟩).2.p (tk valZ (rVal b) ⟨p, bad, why⟩).2.bad (tk valZ (rVal b) ⟨p, bad, why⟩).2.why (by omega) (by simp; omega) x1
      have er : valR b (m + 1) l ⟨p, bad, why⟩ = valR b m (l ++ [(tk valZ (rVal b) ⟨p, bad, why⟩).1]) (tk valZ (rVal b) ⟨p, bad, why⟩).2 := by
        unfold valR
        rw [repT, if_pos hy]
      have hy' : (((tk valZ (rVal b) ⟨p, bad, why⟩).2.why : Nat) : Int) = 0 := by omega
      rw [TS.eta] at ih
      rw [er]
      simp +contextual -dsimp (disch := omega) only [↓kDown, kUp, ↓goDown, goUp, cr, simprocAttr, c1, hu, hv, bsR_v, ap_V, u2l, u3m, low_Pa, eq_true hy', e1, hw, ih]
    · have er : valR b (m + 1) l ⟨p, bad, why⟩ = ((l ++ [(tk valZ (rVal b) ⟨p, bad, why⟩).1], (tk valZ (rVal b) ⟨p, bad, why⟩).2), true) := by
        unfold valR
        rw [repT, if_neg hy]
      have hy' : ((((tk valZ (rVal b) ⟨p, bad, why⟩).2.why : Nat) : Int) = 0) = False := eq_false (by omega)
      rw [er]
      simp +contextual -dsimp (disch := omega) only [↓kDown, kUp, ↓goDown, goUp, cr, simprocAttr, c1, hu, hv, bsR_v, ap_V, u2l, u3m, low_Pa, hy']
theorem uwt {l : List VT} (hl : l.length < 1000) (hb : b.length < 2 ^ 61) (hp : p ≤ b.length) (hc : c < List.length H) : runK c (C u2y [.ptr c 0]) (St H c (.cells [BS z b, .int .i64 p, m0, m1, m2, m3, m4, m5, m6, m7, m8, m9, m10, m11, m12, m13, m14, accP 3 (l.map encV), m16, .int .i64 bad, .int .i64 why]) L) = some (.ok (.tup []) (St H c (.cells [BS z b, .int .i64 ((valR b (upT b 1000 2 ⟨p, bad, why⟩).1 l (upT b 1000 2 ⟨p, bad, why⟩).2).1.2.p : Nat), m0, m1, m2, m3, m4, m5, m6, m7, m8, m9, m10, m11, m12, m13, m14, accP 3 ((valR b (upT b 1000 2 ⟨p, bad, why⟩).1 l (upT b 1000 2 ⟨p, bad, why⟩).2).1.1.map encV), m16, .int .i64 ((valR b (upT b 1000 2 ⟨p, bad, why⟩).1 l (upT b 1000 2 ⟨p, bad, why⟩).2).1.2.bad : Nat), .int .i64 ((valR b (upT b 1000 2 ⟨p, bad, why⟩).1 l (upT b 1000 2 ⟨p, bad, why⟩).2).1.2.why : Nat)]) L)) := liftT (fun H hc => by
  have hu := fun L => iupToS (c := c) (H := H) (L := L) (b := b) (z := z) (p := p) (bad := bad) (why := why) (most := 1000) (e := 2) (m0 := m0) (m1 := m1) (m2 := m2) (m3 := m3) (m4 := m4) (m5 := m5) (m6 := m6) (m7 := m7) (m8 := m8) (m9 := m9) (m10 := m10) (m11 := m11) (m12 := m12) (m13 := m13) (m14 := m14) (m15 := accP 3 (l.map encV)) (m16 := m16) (by decide) hb hp hc
  rw [show ((1000 : Nat) : Int) = 1000 from rfl, show ((2 : Nat) : Int) = 2 from rfl] at hu
  have u1 : (upT b 1000 2 ⟨p, bad, why⟩).2.p ≤ b.length := upT_le hp
  have ul : (upT b 1000 2 ⟨p, bad, why⟩).1 ≤ 1000 := upT_lt
  have hlp := ueq (c := c) (H := H) (z := z) (m0 := m0) (m1 := m1) (m2 := m2) (m3 := m3) (m4 := m4) (m5 := m5) (m6 := m6) (m7 := m7) (m8 := m8) (m9 := m9) (m10 := m10) (m11 := m11) (m12 := m12) (m13 := m13) (m14 := m14) (m16 := m16) (n := (upT b 1000 2 ⟨p, bad, why⟩).1) hb (by omega) hc (upT b 1000 2 ⟨p, bad, why⟩).1 0 l (upT b 1000 2 ⟨p, bad, why⟩).2.p (upT b 1000 2 ⟨p, bad, why⟩).2.bad (upT b 1000 2 ⟨p, bad, why⟩).2.why (by omega) (by omega) u1
  rw [show ((0 : Nat) : Int) = 0 from rfl] at hlp
  simp only [TS.eta] at hlp
  rw [uam]
  simp +contextual -dsimp (disch := omega) only [↓kDown, kUp, ↓goDown, goUp, cr, simprocAttr, hu, hlp]) hc
end Go.Proofs.YthidcpkcfoldmaaGreat.Pi.Q
namespace Go.Proofs.YthidcpkcfoldmaaGreat.Pi.Q
open Go Go.Proofs.YthidcpkcfoldmaaGreat.Pi
attribute [local congr] ite_congr
variable {c : Nat} {H : Heap} {L : List Box} {b : List UInt8} {z : Bool} {p bad why : Nat} {m0 m1 m2 m3 m4 m5 m6 m7 m8 m9 m10 m11 m12 m13 m14 m15 m16 : PV}
abbrev CN := Nat × Nat × Nat
def encCN (v : CN) : PV := .agg [.int .i64 v.1, .int .u32 v.2.1, .int .u32 v.2.2]
def tagT (b : List UInt8) (t : TS) : Nat × TS := if (smT b 3 t).1 < 2 then tk (0 : Nat) (rdU b 32 b.length) (smT b 3 t).2 else (0, (smT b 3 t).2)
def clT (b : List UInt8) (t : TS) : CN × TS := (((smT b 3 t).1, (tagT b t).1, (tk (0 : Nat) (rdU b 32 b.length) (tagT b t).2).1), (tk (0 : Nat) (rdU b 32 b.length) (tagT b t).2).2)
def repC {α : Type} (one : TS → α × TS) : Nat → List α → TS → List α × TS
  | 0, l, t => (l, t)
  | k + 1, l, t => if (one t).2.why = 0 then repC one k (l ++ [(one t).1]) (one t).2 else (l, (one t).2)
theorem unh {t : TS} (ht : t.p ≤ b.length) : (tagT b t).2.p ≤ b.length := by
  unfold tagT
  split
  · exact tkU_le (smT_le ht)
  · exact smT_le ht
theorem clT_le {t : TS} (ht : t.p ≤ b.length) : (clT b t).2.p ≤ b.length := tkU_le (unh ht)
theorem ap_C {l : List CN} {K : Heap} {v : CN} (hl : l.length < 1048576) : run (ap true 3 16 (accP 3 (l.map encCN)) (.slice true false 3 [.agg [.int .i64 v.1, .int .u32 v.2.1, .int .u32 v.2.2]])) K = some (.ok (accP 3 ((l ++ [v]).map encCN)) K) := by
  have := ap_acc (H := K) (sz := 3) (b := 16) (l := l.map encCN) (v := encCN v) (o := true) (by rw [List.length_map]; show (l.length + 1) * 16 ≤ _; omega)
  rw [List.map_append]
  exact this
theorem ap_C' {l : List CN} {K : Heap} {x y w : Nat} (hl : l.length < 1048576) : run (ap true 3 16 (accP 3 (l.map encCN)) (.slice true false 3 [.agg [.int .i64 x, .int .u32 y, .int .u32 w]])) K = some (.ok (accP 3 ((l ++ [(x, y, w)]).map encCN)) K) := ap_C (v := (x, y, w)) hl
theorem bsR_c0 {x w : Nat} {K : Heap} : bsR true (some 3) [.agg [.int .i64 x, .int .u32 0, .int .u32 w]] K = some (.ok (.slice true false 3 [.agg [.int .i64 x, .int .u32 0, .int .u32 w]]) K) := nrfl rfl
theorem bsR_c {x y w : Nat} {K : Heap} : bsR true (some 3) [.agg [.int .i64 x, .int .u32 y, .int .u32 w]] K = some (.ok (.slice true false 3 [.agg [.int .i64 x, .int .u32 y, .int .u32 w]]) K) := nrfl rfl
theorem uh4 {n : Nat} (hb : b.length < 2 ^ 61) (hn : n ≤ 65536) : ∀ (m i : Nat) (l : List CN) (p bad why : Nat) (L : List Box) (H : Heap), i + m = n → l.length + m ≤ 100000 → p ≤ b.length → c < List.length H →
    ∃ L', runK c (u3p (.ptr c 0) (.int .u32 n) (.int .u32 i)) (St H c (.cells [BS z b, .int .i64 p, m0, m1, m2, m3, m4, m5, m6, m7, m8, m9, m10, m11, m12, m13, m14, m15, accP 3 (l.map encCN), .int .i64 bad, .int .i64 why]) L) = some (.ok (.tup []) (St H c (.cells [BS z b, .int .i64 ((repC (clT b) m l ⟨p, bad, why⟩).2.p : Nat), m0, m1, m2, m3, m4, m5, m6, m7, m8, m9, m10, m11, m12, m13, m14, m15, accP 3 ((repC (clT b) m l ⟨p, bad, why⟩).1.map encCN), .int .i64 ((repC (clT b) m l ⟨p, bad, why⟩).2.bad : Nat), .int .i64 ((repC (clT b) m l ⟨p, bad, why⟩).2.why : Nat)]) L'))
  | 0, i, l, p, bad, why, L, H, hi, hl, hp, hc => by
    have c1 : ¬ (i : Int) < (n : Int) := by omega
    refine ⟨L, ?_⟩
    rw [u75]
    simp only [repC]
    simp +contextual -dsimp (disch := omega) only [↓kDown, kUp, ↓goDown, goUp, cr, simprocAttr, c1]
  | m + 1, i, l, p, bad, why, L, H, hi, hl, hp, hc => by
    have c1 : (i : Int) < (n : Int) := by omega
    have e1 : ((i : Int) + 1) = ((i + 1 : Nat) : Int) := rfl
    have hw : IntKind.u32.wrap ((i + 1 : Nat) : Int) = ((i + 1 : Nat) : Int) := w_u32 (by omega)
    rw [u51 hc]
    have hS : ∀ x L', St H c x (L ++ L') = St (hadd H L) c x L' := fun x L' => (St_out rfl hc).symm
    have hc' : c < List.length (hadd H L) := by rw [u7l]; omega
    suffices hh : ∃ L', runK c (u3p (.ptr c 0) (.int .u32 n) (.int .u32 i)) (St (hadd H L) c (.cells [BS z b, .int .i64 p, m0, m1, m2, m3, m4, m5, m6, m7, m8, m9, m10, m11, m12, m13, m14, m15, accP 3 (l.map encCN), .int .i64 bad, .int .i64 why]) []) = some (.ok (.tup []) (St (hadd H L) c (.cells [BS z b, .int .i64 ((repC (clT b) (m + 1) l ⟨p, bad, why⟩).2.p : Nat), m0, m1, m2, m3, m4, m5, m6, m7, m8, m9, m10, m11, m12, m13, m14, m15, accP 3 ((repC (clT b) (m + 1) l ⟨p, bad, why⟩).1.map encCN), .int .i64 ((repC (clT b) (m + 1) l ⟨p, bad, why⟩).2.bad : Nat), .int .i64 ((repC (clT b) (m + 1) l ⟨p, bad, why⟩).2.why : Nat)]) L')) by
      obtain ⟨L', h⟩ := hh
      exact ⟨L ++ L', by rw [hS]; exact h⟩
    generalize hadd H L = K at hc' ⊢
    have hs := fun L => ukh (c := c) (H := K) (L := L) (b := b) (z := z) (p := p) (bad := bad) (why := why) (most := 3) (m0 := m0) (m1 := m1) (m2 := m2) (m3 := m3) (m4 := m4) (m5 := m5) (m6 := m6) (m7 := m7) (m8 := m8) (m9 := m9) (m10 := m10) (m11 := m11) (m12 := m12) (m13 := m13) (m14 := m14) (m15 := m15) (m16 := accP 3 (l.map encCN)) hb hc'
    rw [show ((3 : Nat) : Int) = 3 from rfl] at hs
    have s1 : (smT b 3 ⟨p, bad, why⟩).2.p ≤ b.length := smT_le hp
    have sl : (smT b 3 ⟨p, bad, why⟩).1 < 256 := smT_lt
    have g1 : (tagT b ⟨p, bad, why⟩).2.p ≤ b.length := unh hp
    have l1 : (clT b ⟨p, bad, why⟩).2.p ≤ b.length := clT_le hp
    have hg := fun L => iu32S (c := c) (H := K) (L := L) (b := b) (z := z) (p := (smT b 3 ⟨p, bad, why⟩).2.p) (bad := (smT b 3 ⟨p, bad, why⟩).2.bad) (why := (smT b 3 ⟨p, bad, why⟩).2.why) (m0 := m0) (m1 := m1) (m2 := m2) (m3 := m3) (m4 := m4) (m5 := m5) (m6 := m6) (m7 := m7) (m8 := m8) (m9 := m9) (m10 := m10) (m11 := m11) (m12 := m12) (m13 := m13) (m14 := m14) (m15 := m15) (m16 := accP 3 (l.map encCN)) hb s1 hc'
    rw [u75]
    simp only [repC]
    by_cases hk : (smT b 3 ⟨p, bad, why⟩).1 < 2
    · have hk' : (((smT b 3 ⟨p, bad, why⟩).1 : Nat) : Int) < 2 := by omega
      have et : (tagT b ⟨p, bad, why⟩) = (tk (0 : Nat) (rdU b 32 b.length) (smT b 3 ⟨p, bad, why⟩).2) := by unfold tagT; rw [if_pos hk]
      have ec : (clT b ⟨p, bad, why⟩) = (((smT b 3 ⟨p, bad, why⟩).1, (tk (0 : Nat) (rdU b 32 b.length) (smT b 3 ⟨p, bad, why⟩).2).1, (tk (0 : Nat) (rdU b 32 b.length) (tk (0 : Nat) (rdU b 32 b.length) (smT b 3 ⟨p, bad, why⟩).2).2).1), (tk (0 : Nat) (rdU b 32 b.length) (tk (0 : Nat) (rdU b 32 b.length) (smT b 3 ⟨p, bad, why⟩).2).2).2) := by unfold clT; rw [et]
      rw [et] at g1
      have hx := fun L => iu32S (c := c) (H := K) (L := L) (b := b) (z := z) (p := (tk (0 : Nat) (rdU b 32 b.length) (smT b 3 ⟨p, bad, why⟩).2).2.p) (bad := (tk (0 : Nat) (rdU b 32 b.length) (smT b 3 ⟨p, bad, why⟩).2).2.bad) (why := (tk (0 : Nat) (rdU b 32 b.length) (smT b 3 ⟨p, bad, why⟩).2).2.why) (m0 := m0) (m1 := m1) (m2 := m2) (m3 := m3) (m4 := m4) (m5 := m5) (m6 := m6) (m7 := m7) (m8 := m8) (m9 := m9) (m10 := m10) (m11 := m11) (m12 := m12) (m13 := m13) (m14 := m14) (m15 := m15) (m16 := accP 3 (l.map encCN)) hb g1 hc'
      rw [ec] at l1 ⊢
      simp only at l1 ⊢
      by_cases hy : (tk (0 : Nat) (rdU b 32 b.length) (tk (0 : Nat) (rdU b 32 b.length) (smT b 3 ⟨p, bad, why⟩).2).2).2.why = 0
      · obtain ⟨L', ih⟩ := uh4 hb hn m (i + 1) (l ++ [((smT b 3 ⟨p, bad, why⟩).1, (tk (0 : Nat) (rdU b 32 b.length) (smT b 3 ⟨p, bad, why⟩).2).1, (tk (0 : Nat) (rdU b 32 b.length) (tk (0 : Nat) (rdU b 32 b.length) (smT b 3 ⟨p, bad, why⟩).2).2).1)]) (tk (0 : Nat) (rdU b 32 b.length) (tk (0 : Nat) (rdU b 32 b.length) (smT b 3 ⟨p, bad, why⟩).2).2).2.p (tk (0 : Nat) (rdU b 32 b.length) (tk (0 : Nat) (rdU b 32 b.length) (smT b 3 ⟨p, bad, why⟩).2).2).2.bad (tk (0 : Nat) (rdU b 32 b.length) (tk (0 : Nat) (rdU b 32 b.length) (smT b 3 ⟨p, bad, why⟩).2).2).2.why [.cells [.int .i64 (smT b 3 ⟨p, bad, why⟩).1, .int .u32 (tk (0 : Nat) (rdU b 32 b.length) (smT b 3 ⟨p, bad, why⟩).2).1, .int .u32 (tk (0 : Nat) (rdU b 32 b.length) (tk (0 : Nat) (rdU b 32 b.length) (smT b 3 ⟨p, bad, why⟩).2).2).1]] K (by omega) (by simp; omega) l1 hc'
        have hy' : (((tk (0 : Nat) (rdU b 32 b.length) (tk (0 : Nat) (rdU b 32 b.length) (smT b 3 ⟨p, bad, why⟩).2).2).2.why : Nat) : Int) = 0 := by omega
        rw [TS.eta] at ih
        refine ⟨L', ?_⟩
        rw [if_pos hy]
        simp +contextual -dsimp (disch := omega) only [↓kDown, kUp, ↓goDown, goUp, cr, simprocAttr, c1, hs, eq_true hk', hg, hx, u29, bsR_c, ap_C', u2l, u3m, low_Pa, eq_true hy', e1, hw, ih]
      · have hy' : ((((tk (0 : Nat) (rdU b 32 b.length) (tk (0 : Nat) (rdU b 32 b.length) (smT b 3 ⟨p, bad, why⟩).2).2).2.why : Nat) : Int) = 0) = False := eq_false (by omega)
        refine ⟨[.cells [.int .i64 (smT b 3 ⟨p, bad, why⟩).1, .int .u32 (tk (0 : Nat) (rdU b 32 b.length) (smT b 3 ⟨p, bad, why⟩).2).1, .int .u32 (tk (0 : Nat) (rdU b 32 b.length) (tk (0 : Nat) (rdU b 32 b.length) (smT b 3 ⟨p, bad, why⟩).2).2).1]], ?_⟩
        rw [if_neg hy]
        simp +contextual -dsimp (disch := omega) only [↓kDown, kUp, ↓goDown, goUp, cr, simprocAttr, c1, hs, eq_true hk', hg, hx, u29, bsR_c, ap_C', u2l, u3m, low_Pa, hy', TS.eta]
    · have hk' : ¬ (((smT b 3 ⟨p, bad, why⟩).1 : Nat) : Int) < 2 := by omega
      have et : (tagT b ⟨p, bad, why⟩) = (0, (smT b 3 ⟨p, bad, why⟩).2) := by unfold tagT; rw [if_neg hk]
      have ec : (clT b ⟨p, bad, why⟩) = (((smT b 3 ⟨p, bad, why⟩).1, 0, (tk (0 : Nat) (rdU b 32 b.length) (smT b 3 ⟨p, bad, why⟩).2).1), (tk (0 : Nat) (rdU b 32 b.length) (smT b 3 ⟨p, bad, why⟩).2).2) := by unfold clT; rw [et]
      rw [ec] at l1 ⊢
      simp only at l1 ⊢
      have hx := hg
      by_cases hy : (tk (0 : Nat) (rdU b 32 b.length) (smT b 3 ⟨p, bad, why⟩).2).2.why = 0
      · obtain ⟨L', ih⟩ := uh4 hb hn m (i + 1) (l ++ [((smT b 3 ⟨p, bad, why⟩).1, 0, (tk (0 : Nat) (rdU b 32 b.length) (smT b 3 ⟨p, bad, why⟩).2).1)]) (tk (0 : Nat) (rdU b 32 b.length) (smT b 3 ⟨p, bad, why⟩).2).2.p (tk (0 : Nat) (rdU b 32 b.length) (smT b 3 ⟨p, bad, why⟩).2).2.bad (tk (0 : Nat) (rdU b 32 b.length) (smT b 3 ⟨p, bad, why⟩).2).2.why [.cells [.int .i64 (smT b 3 ⟨p, bad, why⟩).1, .int .u32 0, .int .u32 (tk (0 : Nat) (rdU b 32 b.length) (smT b 3 ⟨p, bad, why⟩).2).1]] K (by omega) (by simp; omega) l1 hc'
        have hy' : (((tk (0 : Nat) (rdU b 32 b.length) (smT b 3 ⟨p, bad, why⟩).2).2.why : Nat) : Int) = 0 := by omega
        have hap := fun K => ap_C (l := l) (K := K) (v := ((smT b 3 ⟨p, bad, why⟩).1, 0, (tk (0 : Nat) (rdU b 32 b.length) (smT b 3 ⟨p, bad, why⟩).2).1)) (by omega)
        simp only [show ((0 : Nat) : Int) = 0 from rfl] at hap
        rw [TS.eta] at ih
        refine ⟨L', ?_⟩
        rw [if_pos hy]
        simp +contextual -dsimp (disch := omega) only [↓kDown, kUp, ↓goDown, goUp, cr, simprocAttr, c1, hs, hk', hx, u29, bsR_c, ap_C', u2l, u3m, low_Pa, hap, bsR_c0, eq_true hy', e1, hw, ih]
      · have hy' : ((((tk (0 : Nat) (rdU b 32 b.length) (smT b 3 ⟨p, bad, why⟩).2).2.why : Nat) : Int) = 0) = False := eq_false (by omega)
        refine ⟨[.cells [.int .i64 (smT b 3 ⟨p, bad, why⟩).1, .int .u32 0, .int .u32 (tk (0 : Nat) (rdU b 32 b.length) (smT b 3 ⟨p, bad, why⟩).2).1]], ?_⟩
        rw [if_neg hy]
        simp +contextual -dsimp (disch := omega) only [↓kDown, kUp, ↓goDown, goUp, cr, simprocAttr, c1, hs, hk', hx, u29, bsR_c, ap_C', u2l, u3m, low_Pa, hy', TS.eta]
theorem utk {b : List UInt8} {p q : Nat} {v : BK} (h : rBlock b p = .ok v q) : q ≤ b.length := by
  unfold rBlock at h
  split at h
  · split at h
    · simp only [Rs.ok.injEq] at h; omega
    · split at h
      · cases hr : rVal b p with
        | ok u r => rw [hr] at h; simp only [Rs.ok.injEq] at h; have := usi hr; omega
        | err a w => rw [hr] at h; cases h
      · cases hr : rS33 b p with
        | ok u r => rw [hr] at h; simp only [Rs.ok.injEq] at h; have := (uv6 hr).1; omega
        | err a w => rw [hr] at h; cases h
  · cases h
theorem tkB_le {t : TS} (ht : t.p ≤ b.length) : (tk (⟨0, ⟨0, false, 0⟩⟩ : BK) (rBlock b) t).2.p ≤ b.length := tk_le (fun v q h => utk h) ht
theorem itryS {l : List CN} (hl : l.length < 1000) (hb : b.length < 2 ^ 61) (hp : p ≤ b.length) (hc : c < List.length H) : runK c (C u3d [.ptr c 0]) (St H c (.cells [BS z b, .int .i64 p, m0, m1, m2, m3, m4, m5, m6, m7, m8, m9, m10, m11, m12, m13, m14, m15, accP 3 (l.map encCN), .int .i64 bad, .int .i64 why]) L) = some (.ok (.tup []) (St H c (.cells [BS z b, .int .i64 ((repC (clT b) (upT b 65536 2 (tk (⟨0, ⟨0, false, 0⟩⟩ : BK) (rBlock b) ⟨p, bad, why⟩).2).1 l (upT b 65536 2 (tk (⟨0, ⟨0, false, 0⟩⟩ : BK) (rBlock b) ⟨p, bad, why⟩).2).2).2.p : Nat), m0, m1, m2, m3, m4, m5, m6, .int .i64 (tk (⟨0, ⟨0, false, 0⟩⟩ : BK) (rBlock b) ⟨p, bad, why⟩).1.ty, .int .i64 (tk (⟨0, ⟨0, false, 0⟩⟩ : BK) (rBlock b) ⟨p, bad, why⟩).1.res.num, .bool (tk (⟨0, ⟨0, false, 0⟩⟩ : BK) (rBlock b) ⟨p, bad, why⟩).1.res.nul, .int .i64 (tk (⟨0, ⟨0, false, 0⟩⟩ : BK) (rBlock b) ⟨p, bad, why⟩).1.res.heap, m11, m12, m13, m14, m15, accP 3 ((repC (clT b) (upT b 65536 2 (tk (⟨0, ⟨0, false, 0⟩⟩ : BK) (rBlock b) ⟨p, bad, why⟩).2).1 l (upT b 65536 2 (tk (⟨0, ⟨0, false, 0⟩⟩ : BK) (rBlock b) ⟨p, bad, why⟩).2).2).1.map encCN), .int .i64 ((repC (clT b) (upT b 65536 2 (tk (⟨0, ⟨0, false, 0⟩⟩ : BK) (rBlock b) ⟨p, bad, why⟩).2).1 l (upT b 65536 2 (tk (⟨0, ⟨0, false, 0⟩⟩ : BK) (rBlock b) ⟨p, bad, why⟩).2).2).2.bad : Nat), .int .i64 ((repC (clT b) (upT b 65536 2 (tk (⟨0, ⟨0, false, 0⟩⟩ : BK) (rBlock b) ⟨p, bad, why⟩).2).1 l (upT b 65536 2 (tk (⟨0, ⟨0, false, 0⟩⟩ : BK) (rBlock b) ⟨p, bad, why⟩).2).2).2.why : Nat)]) L)) := liftT (fun H hc => by
  have hbk := fun L => uux (c := c) (H := H) (L := L) (b := b) (z := z) (p := p) (bad := bad) (why := why) (m0 := m0) (m1 := m1) (m2 := m2) (m3 := m3) (m4 := m4) (m5 := m5) (m6 := m6) (m7 := m7) (m8 := m8) (m9 := m9) (m10 := m10) (m11 := m11) (m12 := m12) (m13 := m13) (m14 := m14) (m15 := m15) (m16 := accP 3 (l.map encCN)) hb hp hc
  have k1 : (tk (⟨0, ⟨0, false, 0⟩⟩ : BK) (rBlock b) ⟨p, bad, why⟩).2.p ≤ b.length := tkB_le hp
  have hu := fun L => iupToS (c := c) (H := H) (L := L) (b := b) (z := z) (p := (tk (⟨0, ⟨0, false, 0⟩⟩ : BK) (rBlock b) ⟨p, bad, why⟩).2.p) (bad := (tk (⟨0, ⟨0, false, 0⟩⟩ : BK) (rBlock b) ⟨p, bad, why⟩).2.bad) (why := (tk (⟨0, ⟨0, false, 0⟩⟩ : BK) (rBlock b) ⟨p, bad, why⟩).2.why) (most := 65536) (e := 2) (m0 := m0) (m1 := m1) (m2 := m2) (m3 := m3) (m4 := m4) (m5 := m5) (m6 := m6) (m7 := .int .i64 (tk (⟨0, ⟨0, false, 0⟩⟩ : BK) (rBlock b) ⟨p, bad, why⟩).1.ty) (m8 := .int .i64 (tk (⟨0, ⟨0, false, 0⟩⟩ : BK) (rBlock b) ⟨p, bad, why⟩).1.res.num) (m9 := .bool (tk (⟨0, ⟨0, false, 0⟩⟩ : BK) (rBlock b) ⟨p, bad, why⟩).1.res.nul) (m10 := .int .i64 (tk (⟨0, ⟨0, false, 0⟩⟩ : BK) (rBlock b) ⟨p, bad, why⟩).1.res.heap) (m11 := m11) (m12 := m12) (m13 := m13) (m14 := m14) (m15 := m15) (m16 := accP 3 (l.map encCN)) (by decide) hb k1 hc
  rw [show ((65536 : Nat) : Int) = 65536 from rfl, show ((2 : Nat) : Int) = 2 from rfl] at hu
  have u1 : (upT b 65536 2 (tk (⟨0, ⟨0, false, 0⟩⟩ : BK) (rBlock b) ⟨p, bad, why⟩).2).2.p ≤ b.length := upT_le k1
  have ul : (upT b 65536 2 (tk (⟨0, ⟨0, false, 0⟩⟩ : BK) (rBlock b) ⟨p, bad, why⟩).2).1 ≤ 65536 := upT_lt
  obtain ⟨L', hlp⟩ := uh4 (c := c) (z := z) (m0 := m0) (m1 := m1) (m2 := m2) (m3 := m3) (m4 := m4) (m5 := m5) (m6 := m6) (m7 := .int .i64 (tk (⟨0, ⟨0, false, 0⟩⟩ : BK) (rBlock b) ⟨p, bad, why⟩).1.ty) (m8 := .int .i64 (tk (⟨0, ⟨0, false, 0⟩⟩ : BK) (rBlock b) ⟨p, bad, why⟩).1.res.num) (m9 := .bool (tk (⟨0, ⟨0, false, 0⟩⟩ : BK) (rBlock b) ⟨p, bad, why⟩).1.res.nul) (m10 := .int .i64 (tk (⟨0, ⟨0, false, 0⟩⟩ : BK) (rBlock b) ⟨p, bad, why⟩).1.res.heap) (m11 := m11) (m12 := m12) (m13 := m13) (m14 := m14) (m15 := m15) (n := (upT b 65536 2 (tk (⟨0, ⟨0, false, 0⟩⟩ : BK) (rBlock b) ⟨p, bad, why⟩).2).1) hb ul (upT b 65536 2 (tk (⟨0, ⟨0, false, 0⟩⟩ : BK) (rBlock b) ⟨p, bad, why⟩).2).1 0 l (upT b 65536 2 (tk (⟨0, ⟨0, false, 0⟩⟩ : BK) (rBlock b) ⟨p, bad, why⟩).2).2.p (upT b 65536 2 (tk (⟨0, ⟨0, false, 0⟩⟩ : BK) (rBlock b) ⟨p, bad, why⟩).2).2.bad (upT b 65536 2 (tk (⟨0, ⟨0, false, 0⟩⟩ : BK) (rBlock b) ⟨p, bad, why⟩).2).2.why [] H (by omega) (by omega) u1 hc
  rw [show ((0 : Nat) : Int) = 0 from rfl] at hlp
  simp only [TS.eta] at hlp hu
  rw [uct]
  simp +contextual -dsimp (disch := omega) only [↓kDown, kUp, ↓goDown, goUp, cr, simprocAttr, hbk, hu, hlp]) hc
end Go.Proofs.YthidcpkcfoldmaaGreat.Pi.Q
namespace Go.Proofs.YthidcpkcfoldmaaGreat.Pi.Q
open Go Go.Proofs.YthidcpkcfoldmaaGreat.Pi
attribute [local congr] ite_congr
variable {c : Nat} {H : Heap} {L : List Box} {b : List UInt8} {z : Bool} {p bad why : Nat} {m0 m1 m2 m3 m4 m5 m6 m7 m8 m9 m10 m11 m12 m13 m14 m15 m16 : PV}
def pfT (a : Nat) (t : TS) : TS := if t.why = 4 ∧ t.bad = a + 1 then ⟨t.p, a, 4⟩ else t
def fmT (a op : Nat) (t : TS) : TS := if formN op = 0 then flT a 4 t else t
def opcT (b : List UInt8) (t : TS) : Nat × TS :=
  if (smT b 255 t).1 = 253 then (253, fmT t.p 253 (flT t.p 8 (smT b 255 t).2))
  else if (smT b 255 t).1 = 251 ∨ (smT b 255 t).1 = 252 then
    ((smT b 255 t).1 * 256 + (upT b 255 4 (smT b 255 t).2).1, fmT t.p ((smT b 255 t).1 * 256 + (upT b 255 4 (smT b 255 t).2).1) (pfT t.p (upT b 255 4 (smT b 255 t).2).2))
  else ((smT b 255 t).1, fmT t.p (smT b 255 t).1 (smT b 255 t).2)
theorem opc_or {n k : Nat} (hn : n < 256) (hk : k < 256) : IntKind.i64.wrap ((BitVec.ofInt IntKind.i64.bits ((n * 256 : Nat) : Int) ||| BitVec.ofInt IntKind.i64.bits (k : Int)).toNat : Int) = ((n * 256 + k : Nat) : Int) := by
  rw [show IntKind.i64.bits = 64 from rfl, bv_or (by omega) (by omega), Nat.or_comm, show n * 256 = n * 2 ^ 8 by omega, ujr k 8 n hk, w_i64 (by omega)]
  omega
theorem uyp {n : Nat} (hn : n < 256) : IntKind.i64.wrap ((n : Int) * 2 ^ shiftN .i64 8) = ((n * 256 : Nat) : Int) := by
  rw [show shiftN .i64 8 = 8 from rfl, w_i64 (by omega)]
  omega
theorem udy {op a : Nat} {v2 : PV} (hop : op < 1048576) (hb : b.length < 2 ^ 61) (ha : a ≤ b.length) (hc : c < List.length H) : runK c (u1v (.ptr c 0) v2 (.int .i64 a) (.int .i64 op)) (St H c (.cells [BS z b, .int .i64 p, m0, m1, m2, m3, m4, m5, m6, m7, m8, m9, m10, m11, m12, m13, m14, m15, m16, .int .i64 bad, .int .i64 why]) []) = some (.ok (.int .i64 (formN op : Nat)) (St H c (.cells [BS z b, .int .i64 ((fmT a op ⟨p, bad, why⟩).p : Nat), .int .i64 (op : Nat), m1, m2, m3, m4, m5, m6, m7, m8, m9, m10, m11, m12, m13, m14, m15, m16, .int .i64 ((fmT a op ⟨p, bad, why⟩).bad : Nat), .int .i64 ((fmT a op ⟨p, bad, why⟩).why : Nat)]) [.cells [.int .i64 (opP op).1, .str (opP op).2.1, .int .i64 (formN op : Nat)]])) := by
  have hf := fun K => ut1 (op := (op : Int)) (H := K) (by omega) (by omega)
  unfold encK at hf
  rw [uxe] at hf
  have hfl := fun L => ifailS (c := c) (H := H) (L := L) (b := b) (z := z) (p := p) (bad := bad) (why := why) (a := a) (w := 4) (m0 := m0) (m1 := m1) (m2 := m2) (m3 := m3) (m4 := m4) (m5 := m5) (m6 := m6) (m7 := m7) (m8 := m8) (m9 := m9) (m10 := m10) (m11 := m11) (m12 := m12) (m13 := m13) (m14 := m14) (m15 := m15) (m16 := m16) hc
  rw [show ((4 : Nat) : Int) = 4 from rfl] at hfl
  rw [u8c]
  unfold fmT
  by_cases h0 : formN op = 0
  · have h0' : ((formN op : Nat) : Int) = 0 := by omega
    have e3 : (flT a 4 ⟨p, bad, why⟩).p = p := by unfold flT; split <;> rfl
    rw [if_pos h0, e3]
    simp +contextual -dsimp (disch := omega) only [↓kDown, kUp, ↓goDown, goUp, cr, simprocAttr, toK (m := C u7m [.int .i64 (op : Int)]), hf, eq_true h0', hfl, u5n] <;> simp [h0]
  · have h0' : (((formN op : Nat) : Int) = 0) = False := eq_false (by omega)
    rw [if_neg h0]
    simp +contextual -dsimp (disch := omega) only [↓kDown, kUp, ↓goDown, goUp, cr, simprocAttr, toK (m := C u7m [.int .i64 (op : Int)]), hf, h0', u5n]
end Go.Proofs.YthidcpkcfoldmaaGreat.Pi.Q
namespace Go.Proofs.YthidcpkcfoldmaaGreat.Pi.Q
open Go Go.Proofs.YthidcpkcfoldmaaGreat.Pi
attribute [local congr] ite_congr
variable {c : Nat} {H : Heap} {L : List Box} {b : List UInt8} {z : Bool} {p bad why : Nat} {m0 m1 m2 m3 m4 m5 m6 m7 m8 m9 m10 m11 m12 m13 m14 m15 m16 : PV}
theorem flT_p {a w : Nat} {t : TS} : (flT a w t).p = t.p := by unfold flT; split <;> rfl
theorem pfT_p {a : Nat} {t : TS} : (pfT a t).p = t.p := by unfold pfT; split <;> rfl
theorem fmT_p {a op : Nat} {t : TS} : (fmT a op t).p = t.p := by
  unfold fmT
  split
  · exact flT_p
  · rfl
theorem uy4 {t : TS} (ht : t.p ≤ b.length) : (opcT b t).2.p ≤ b.length := by
  have h1 : (smT b 255 t).2.p ≤ b.length := smT_le ht
  unfold opcT
  split
  · simp only [fmT_p, flT_p]; exact h1
  · split
    · simp only [fmT_p, pfT_p]; exact upT_le h1
    · simp only [fmT_p]; exact h1
theorem uze {t : TS} : (opcT b t).1 < 1048576 := by
  have h1 : (smT b 255 t).1 < 256 := smT_lt
  have h2 : (upT b 255 4 (smT b 255 t).2).1 ≤ 255 := upT_lt
  unfold opcT
  split
  · exact (by decide : (253 : Nat) < 1048576)
  · split
    · simp only; omega
    · simp only; omega
theorem uzg (hno : (smT b 255 ⟨p, bad, why⟩).2.why ≠ 0) (hb : b.length < 2 ^ 61) (hc : c < List.length H) : runK c (C u31 [.ptr c 0]) (St H c (.cells [BS z b, .int .i64 p, m0, m1, m2, m3, m4, m5, m6, m7, m8, m9, m10, m11, m12, m13, m14, m15, m16, .int .i64 bad, .int .i64 why]) L) = some (.ok (.int .i64 0) (St H c (.cells [BS z b, .int .i64 ((smT b 255 ⟨p, bad, why⟩).2.p : Nat), m0, m1, m2, m3, m4, m5, m6, m7, m8, m9, m10, m11, m12, m13, m14, m15, m16, .int .i64 ((smT b 255 ⟨p, bad, why⟩).2.bad : Nat), .int .i64 ((smT b 255 ⟨p, bad, why⟩).2.why : Nat)]) L)) := liftT (fun H hc => by
  have hs := fun L => ukh (c := c) (H := H) (L := L) (b := b) (z := z) (p := p) (bad := bad) (why := why) (most := 255) (m0 := m0) (m1 := m1) (m2 := m2) (m3 := m3) (m4 := m4) (m5 := m5) (m6 := m6) (m7 := m7) (m8 := m8) (m9 := m9) (m10 := m10) (m11 := m11) (m12 := m12) (m13 := m13) (m14 := m14) (m15 := m15) (m16 := m16) hb hc
  rw [show ((255 : Nat) : Int) = 255 from rfl] at hs
  have sl : (smT b 255 ⟨p, bad, why⟩).1 < 256 := smT_lt
  have hn : ((((smT b 255 ⟨p, bad, why⟩).2.why : Nat) : Int) = 0) = False := eq_false (by omega)
  rw [u82]
  simp +contextual -dsimp (disch := omega) only [↓kDown, kUp, ↓goDown, goUp, cr, simprocAttr, hs, hn]) hc
theorem iopcS (hok : (smT b 255 ⟨p, bad, why⟩).2.why = 0) (hb : b.length < 2 ^ 61) (hp : p ≤ b.length) (hc : c < List.length H) : runK c (C u31 [.ptr c 0]) (St H c (.cells [BS z b, .int .i64 p, m0, m1, m2, m3, m4, m5, m6, m7, m8, m9, m10, m11, m12, m13, m14, m15, m16, .int .i64 bad, .int .i64 why]) L) = some (.ok (.int .i64 (formN ((opcT b ⟨p, bad, why⟩).1 : Nat) : Nat)) (St H c (.cells [BS z b, .int .i64 ((opcT b ⟨p, bad, why⟩).2.p : Nat), .int .i64 ((opcT b ⟨p, bad, why⟩).1 : Nat), m1, m2, m3, m4, m5, m6, m7, m8, m9, m10, m11, m12, m13, m14, m15, m16, .int .i64 ((opcT b ⟨p, bad, why⟩).2.bad : Nat), .int .i64 ((opcT b ⟨p, bad, why⟩).2.why : Nat)]) L)) := liftT (fun H hc => by
  have hs := fun L => ukh (c := c) (H := H) (L := L) (b := b) (z := z) (p := p) (bad := bad) (why := why) (most := 255) (m0 := m0) (m1 := m1) (m2 := m2) (m3 := m3) (m4 := m4) (m5 := m5) (m6 := m6) (m7 := m7) (m8 := m8) (m9 := m9) (m10 := m10) (m11 := m11) (m12 := m12) (m13 := m13) (m14 := m14) (m15 := m15) (m16 := m16) hb hc
  rw [show ((255 : Nat) : Int) = 255 from rfl] at hs
  have sl : (smT b 255 ⟨p, bad, why⟩).1 < 256 := smT_lt
  have s1 : (smT b 255 ⟨p, bad, why⟩).2.p ≤ b.length := smT_le hp
  have hn : ((((smT b 255 ⟨p, bad, why⟩).2.why : Nat) : Int) = 0) = True := eq_true (by omega)
  have ul : (upT b 255 4 (smT b 255 ⟨p, bad, why⟩).2).1 ≤ 255 := upT_lt
  rw [u82]
  unfold opcT
  by_cases hd : (smT b 255 ⟨p, bad, why⟩).1 = 253
  · have hd' : (((smT b 255 ⟨p, bad, why⟩).1 : Nat) : Int) = 253 := by omega
    have hfl := fun L => ifailS (c := c) (H := H) (L := L) (b := b) (z := z) (p := (smT b 255 ⟨p, bad, why⟩).2.p) (bad := (smT b 255 ⟨p, bad, why⟩).2.bad) (why := (smT b 255 ⟨p, bad, why⟩).2.why) (a := p) (w := 8) (m0 := m0) (m1 := m1) (m2 := m2) (m3 := m3) (m4 := m4) (m5 := m5) (m6 := m6) (m7 := m7) (m8 := m8) (m9 := m9) (m10 := m10) (m11 := m11) (m12 := m12) (m13 := m13) (m14 := m14) (m15 := m15) (m16 := m16) hc
    rw [show ((8 : Nat) : Int) = 8 from rfl] at hfl
    simp only [TS.eta] at hfl
    have he := (fun (op : Nat) (hop : op < 1048576) => udy (c := c) (H := H) (b := b) (z := z) (p := (smT b 255 ⟨p, bad, why⟩).2.p) (bad := (flT p 8 (smT b 255 ⟨p, bad, why⟩).2).bad) (why := (flT p 8 (smT b 255 ⟨p, bad, why⟩).2).why) (op := op) (a := p) (v2 := .int .i64 0) (m0 := m0) (m1 := m1) (m2 := m2) (m3 := m3) (m4 := m4) (m5 := m5) (m6 := m6) (m7 := m7) (m8 := m8) (m9 := m9) (m10 := m10) (m11 := m11) (m12 := m12) (m13 := m13) (m14 := m14) (m15 := m15) (m16 := m16) hop hb hp hc) 253 (by decide)
    rw [show ((253 : Nat) : Int) = 253 from rfl] at he
    have e1 : (⟨(smT b 255 ⟨p, bad, why⟩).2.p, (flT p 8 (smT b 255 ⟨p, bad, why⟩).2).bad, (flT p 8 (smT b 255 ⟨p, bad, why⟩).2).why⟩ : TS) = flT p 8 (smT b 255 ⟨p, bad, why⟩).2 := by
      rw [← flT_p (a := p) (w := 8) (t := (smT b 255 ⟨p, bad, why⟩).2)]
    rw [e1] at he
    rw [if_pos hd]
    simp +contextual -dsimp (disch := omega) only [↓kDown, kUp, ↓goDown, goUp, cr, simprocAttr, hs, hn, hd', hfl, he] <;> rfl
  · have hd' : ((((smT b 255 ⟨p, bad, why⟩).1 : Nat) : Int) = 253) = False := eq_false (by omega)
    rw [if_neg hd]
    by_cases hq : (smT b 255 ⟨p, bad, why⟩).1 = 251 ∨ (smT b 255 ⟨p, bad, why⟩).1 = 252
    · have hu := fun L => iupToS (c := c) (H := H) (L := L) (b := b) (z := z) (p := (smT b 255 ⟨p, bad, why⟩).2.p) (bad := (smT b 255 ⟨p, bad, why⟩).2.bad) (why := (smT b 255 ⟨p, bad, why⟩).2.why) (most := 255) (e := 4) (m0 := m0) (m1 := m1) (m2 := m2) (m3 := m3) (m4 := m4) (m5 := m5) (m6 := m6) (m7 := m7) (m8 := m8) (m9 := m9) (m10 := m10) (m11 := m11) (m12 := m12) (m13 := m13) (m14 := m14) (m15 := m15) (m16 := m16) (by decide) hb s1 hc
      rw [show ((255 : Nat) : Int) = 255 from rfl, show ((4 : Nat) : Int) = 4 from rfl] at hu
      simp only [TS.eta] at hu
      have h1 := uyp sl
      have h2 := opc_or (k := (upT b 255 4 (smT b 255 ⟨p, bad, why⟩).2).1) sl (by omega)
      have e3 : ((p : Nat) : Int) + 1 = ((p + 1 : Nat) : Int) := by omega
      have hwp : IntKind.i64.wrap ((p + 1 : Nat) : Int) = ((p + 1 : Nat) : Int) := w_i64 (by omega)
      rw [if_pos hq]
      have hqq : ((((smT b 255 ⟨p, bad, why⟩).1 : Nat) : Int) = 251) = True ∨ (((((smT b 255 ⟨p, bad, why⟩).1 : Nat) : Int) = 251) = False ∧ ((((smT b 255 ⟨p, bad, why⟩).1 : Nat) : Int) = 252) = True) := by
        rcases hq with h | h
        · exact .inl (eq_true (by omega))
        · exact .inr ⟨eq_false (by omega), eq_true (by omega)⟩
      by_cases hw4 : (upT b 255 4 (smT b 255 ⟨p, bad, why⟩).2).2.why = 4
      · have hw4' : ((((upT b 255 4 (smT b 255 ⟨p, bad, why⟩).2).2.why : Nat) : Int) = 4) = True := eq_true (by omega)
        by_cases hb1 : (upT b 255 4 (smT b 255 ⟨p, bad, why⟩).2).2.bad = p + 1
        · have hb1' : ((((upT b 255 4 (smT b 255 ⟨p, bad, why⟩).2).2.bad : Nat) : Int) = ((p + 1 : Nat) : Int)) = True := eq_true (by omega)
          have ep : pfT p (upT b 255 4 (smT b 255 ⟨p, bad, why⟩).2).2 = ⟨(upT b 255 4 (smT b 255 ⟨p, bad, why⟩).2).2.p, p, 4⟩ := by unfold pfT; rw [if_pos ⟨hw4, hb1⟩]
          have he := (fun (op : Nat) (hop : op < 1048576) => udy (c := c) (H := H) (b := b) (z := z) (p := (upT b 255 4 (smT b 255 ⟨p, bad, why⟩).2).2.p) (bad := p) (why := 4) (op := op) (a := p) (v2 := .int .i64 0) (m0 := m0) (m1 := m1) (m2 := m2) (m3 := m3) (m4 := m4) (m5 := m5) (m6 := m6) (m7 := m7) (m8 := m8) (m9 := m9) (m10 := m10) (m11 := m11) (m12 := m12) (m13 := m13) (m14 := m14) (m15 := m15) (m16 := m16) hop hb hp hc) ((smT b 255 ⟨p, bad, why⟩).1 * 256 + (upT b 255 4 (smT b 255 ⟨p, bad, why⟩).2).1) (by omega)
          rw [hw4] at hu
          rw [ep]
          rw [show ((4 : Nat) : Int) = 4 from rfl] at he hu
          rcases hqq with hqa | ⟨hqa, hqb⟩
          · simp +contextual -dsimp (disch := omega) only [↓kDown, kUp, ↓goDown, goUp, cr, simprocAttr, hs, hn, hd', hqa, u7j, h1, hu, run_or, h2, e3, hwp, hb1', he]
          · simp +contextual -dsimp (disch := omega) only [↓kDown, kUp, ↓goDown, goUp, cr, simprocAttr, hs, hn, hd', hqa, hqb, u7j, h1, hu, run_or, h2, e3, hwp, hb1', he]
        · have hb1' : ((((upT b 255 4 (smT b 255 ⟨p, bad, why⟩).2).2.bad : Nat) : Int) = ((p + 1 : Nat) : Int)) = False := eq_false (by omega)
          have ep : pfT p (upT b 255 4 (smT b 255 ⟨p, bad, why⟩).2).2 = (upT b 255 4 (smT b 255 ⟨p, bad, why⟩).2).2 := by unfold pfT; rw [if_neg (fun h => hb1 h.2)]
          have he := (fun (op : Nat) (hop : op < 1048576) => udy (c := c) (H := H) (b := b) (z := z) (p := (upT b 255 4 (smT b 255 ⟨p, bad, why⟩).2).2.p) (bad := (upT b 255 4 (smT b 255 ⟨p, bad, why⟩).2).2.bad) (why := (upT b 255 4 (smT b 255 ⟨p, bad, why⟩).2).2.why) (op := op) (a := p) (v2 := .int .i64 0) (m0 := m0) (m1 := m1) (m2 := m2) (m3 := m3) (m4 := m4) (m5 := m5) (m6 := m6) (m7 := m7) (m8 := m8) (m9 := m9) (m10 := m10) (m11 := m11) (m12 := m12) (m13 := m13) (m14 := m14) (m15 := m15) (m16 := m16) hop hb hp hc) ((smT b 255 ⟨p, bad, why⟩).1 * 256 + (upT b 255 4 (smT b 255 ⟨p, bad, why⟩).2).1) (by omega)
          simp only [TS.eta] at he
          rw [ep]
          rcases hqq with hqa | ⟨hqa, hqb⟩
          · simp +contextual -dsimp (disch := omega) only [↓kDown, kUp, ↓goDown, goUp, cr, simprocAttr, hs, hn, hd', hqa, u7j, h1, hu, run_or, h2, hw4', e3, hwp, hb1', he]
          · simp +contextual -dsimp (disch := omega) only [↓kDown, kUp, ↓goDown, goUp, cr, simprocAttr, hs, hn, hd', hqa, hqb, u7j, h1, hu, run_or, h2, hw4', e3, hwp, hb1', he]
      · have hw4' : ((((upT b 255 4 (smT b 255 ⟨p, bad, why⟩).2).2.why : Nat) : Int) = 4) = False := eq_false (by omega)
        have ep : pfT p (upT b 255 4 (smT b 255 ⟨p, bad, why⟩).2).2 = (upT b 255 4 (smT b 255 ⟨p, bad, why⟩).2).2 := by unfold pfT; rw [if_neg (fun h => hw4 h.1)]
        have he := (fun (op : Nat) (hop : op < 1048576) => udy (c := c) (H := H) (b := b) (z := z) (p := (upT b 255 4 (smT b 255 ⟨p, bad, why⟩).2).2.p) (bad := (upT b 255 4 (smT b 255 ⟨p, bad, why⟩).2).2.bad) (why := (upT b 255 4 (smT b 255 ⟨p, bad, why⟩).2).2.why) (op := op) (a := p) (v2 := .int .i64 0) (m0 := m0) (m1 := m1) (m2 := m2) (m3 := m3) (m4 := m4) (m5 := m5) (m6 := m6) (m7 := m7) (m8 := m8) (m9 := m9) (m10 := m10) (m11 := m11) (m12 := m12) (m13 := m13) (m14 := m14) (m15 := m15) (m16 := m16) hop hb hp hc) ((smT b 255 ⟨p, bad, why⟩).1 * 256 + (upT b 255 4 (smT b 255 ⟨p, bad, why⟩).2).1) (by omega)
        simp only [TS.eta] at he
        rw [ep]
        rcases hqq with hqa | ⟨hqa, hqb⟩
        · simp +contextual -dsimp (disch := omega) only [↓kDown, kUp, ↓goDown, goUp, cr, simprocAttr, hs, hn, hd', hqa, u7j, h1, hu, run_or, h2, hw4', he]
        · simp +contextual -dsimp (disch := omega) only [↓kDown, kUp, ↓goDown, goUp, cr, simprocAttr, hs, hn, hd', hqa, hqb, u7j, h1, hu, run_or, h2, hw4', he]
    · have hqa : ((((smT b 255 ⟨p, bad, why⟩).1 : Nat) : Int) = 251) = False := eq_false (by omega)
      have hqb : ((((smT b 255 ⟨p, bad, why⟩).1 : Nat) : Int) = 252) = False := eq_false (by omega)
      have he := (fun (op : Nat) (hop : op < 1048576) => udy (c := c) (H := H) (b := b) (z := z) (p := (smT b 255 ⟨p, bad, why⟩).2.p) (bad := (smT b 255 ⟨p, bad, why⟩).2.bad) (why := (smT b 255 ⟨p, bad, why⟩).2.why) (op := op) (a := p) (v2 := .int .i64 0) (m0 := m0) (m1 := m1) (m2 := m2) (m3 := m3) (m4 := m4) (m5 := m5) (m6 := m6) (m7 := m7) (m8 := m8) (m9 := m9) (m10 := m10) (m11 := m11) (m12 := m12) (m13 := m13) (m14 := m14) (m15 := m15) (m16 := m16) hop hb hp hc) (smT b 255 ⟨p, bad, why⟩).1 (by omega)
      simp only [TS.eta] at he
      rw [if_neg hq]
      simp +contextual -dsimp (disch := omega) only [↓kDown, kUp, ↓goDown, goUp, cr, simprocAttr, hs, hn, hd', hqa, hqb, he]) hc
end Go.Proofs.YthidcpkcfoldmaaGreat.Pi.Q
namespace Go.Proofs.YthidcpkcfoldmaaGreat.Pi.Q
open Go Go.Proofs.YthidcpkcfoldmaaGreat.Pi
attribute [local congr] ite_congr
variable {c : Nat} {H : Heap} {L : List Box} {b : List UInt8} {z : Bool} {p bad why op : Nat}
def imm (k op : Nat) (b : List UInt8) (t : TS) : List PV × TS :=
  match k with
  | 2 => ([.int .i64 (op : Nat), .int .u32 0, .int .u32 0, .int .u64 0, .int .u32 0, .int .u32 0, .int .u64 0, .int .i64 (tk (⟨0, ⟨0, false, 0⟩⟩ : BK) (rBlock b) t).1.ty, .int .i64 (tk (⟨0, ⟨0, false, 0⟩⟩ : BK) (rBlock b) t).1.res.num, .bool (tk (⟨0, ⟨0, false, 0⟩⟩ : BK) (rBlock b) t).1.res.nul, .int .i64 (tk (⟨0, ⟨0, false, 0⟩⟩ : BK) (rBlock b) t).1.res.heap, .slice false true 0 [], .slice false true 0 [], .bool false, .slice false true 0 [], .slice false true 0 [], .slice false true 0 []], (tk (⟨0, ⟨0, false, 0⟩⟩ : BK) (rBlock b) t).2)
  | 3 => ([.int .i64 (op : Nat), .int .u32 0, .int .u32 0, .int .u64 0, .int .u32 0, .int .u32 0, .int .u64 0, .int .i64 (tk (⟨0, ⟨0, false, 0⟩⟩ : BK) (rBlock b) t).1.ty, .int .i64 (tk (⟨0, ⟨0, false, 0⟩⟩ : BK) (rBlock b) t).1.res.num, .bool (tk (⟨0, ⟨0, false, 0⟩⟩ : BK) (rBlock b) t).1.res.nul, .int .i64 (tk (⟨0, ⟨0, false, 0⟩⟩ : BK) (rBlock b) t).1.res.heap, .slice false true 0 [], .slice false true 0 [], .bool false, .slice false true 0 [], .slice false true 0 [], accP 3 ((repC (clT b) (upT b 65536 2 (tk (⟨0, ⟨0, false, 0⟩⟩ : BK) (rBlock b) t).2).1 [] (upT b 65536 2 (tk (⟨0, ⟨0, false, 0⟩⟩ : BK) (rBlock b) t).2).2).1.map encCN)], (repC (clT b) (upT b 65536 2 (tk (⟨0, ⟨0, false, 0⟩⟩ : BK) (rBlock b) t).2).1 [] (upT b 65536 2 (tk (⟨0, ⟨0, false, 0⟩⟩ : BK) (rBlock b) t).2).2).2)
  | 4 => ([.int .i64 (op : Nat), .int .u32 ((tk (0 : Nat) (rdU b 32 b.length) t).1 : Nat), .int .u32 0, .int .u64 0, .int .u32 0, .int .u32 0, .int .u64 0, .int .i64 0, .int .i64 0, .bool false, .int .i64 0, .slice false true 0 [], .slice false true 0 [], .bool false, .slice false true 0 [], .slice false true 0 [], .slice false true 0 []], (tk (0 : Nat) (rdU b 32 b.length) t).2)
  | 5 => ([.int .i64 (op : Nat), .int .u32 ((tk (0 : Nat) (rdU b 32 b.length) t).1 : Nat), .int .u32 ((tk (0 : Nat) (rdU b 32 b.length) (tk (0 : Nat) (rdU b 32 b.length) t).2).1 : Nat), .int .u64 0, .int .u32 0, .int .u32 0, .int .u64 0, .int .i64 0, .int .i64 0, .bool false, .int .i64 0, .slice false true 0 [], .slice false true 0 [], .bool false, .slice false true 0 [], .slice false true 0 [], .slice false true 0 []], (tk (0 : Nat) (rdU b 32 b.length) (tk (0 : Nat) (rdU b 32 b.length) t).2).2)
  | 6 => ([.int .i64 (op : Nat), tabM b (upT b 65536 2 t).1 [] (upT b 65536 2 t).2 (.int .u32 0), .int .u32 0, .int .u64 0, .int .u32 0, .int .u32 0, .int .u64 0, .int .i64 0, .int .i64 0, .bool false, .int .i64 0, .slice false true 0 [], .slice false true 0 [], .bool false, accP 1 ((labR b (upT b 65536 2 t).1 [] (upT b 65536 2 t).2).1.1.map encN), .slice false true 0 [], .slice false true 0 []], (tabT b (upT b 65536 2 t).1 [] (upT b 65536 2 t).2))
  | 7 => ([.int .i64 (op : Nat), .int .u32 0, .int .u32 0, .int .u64 0, .int .u32 0, .int .u32 0, .int .u64 0, .int .i64 0, .int .i64 0, .bool false, .int .i64 0, .slice false true 0 [], .slice false true 0 [], .bool false, .slice false true 0 [], accP 3 ((valR b (upT b 1000 2 t).1 [] (upT b 1000 2 t).2).1.1.map encV), .slice false true 0 []], (valR b (upT b 1000 2 t).1 [] (upT b 1000 2 t).2).1.2)
  | 8 => ([.int .i64 (op : Nat), .int .u32 0, .int .u32 0, .int .u64 0, .int .u32 ((upT b 127 4 t).1 % 64 : Nat), memM b t (.int .u32 0), .int .u64 ((tk (0 : Nat) (rdU b 64 b.length) (memT b t)).1 : Nat), .int .i64 0, .int .i64 0, .bool false, .int .i64 0, .slice false true 0 [], .slice false true 0 [], .bool false, .slice false true 0 [], .slice false true 0 [], .slice false true 0 []], (tk (0 : Nat) (rdU b 64 b.length) (memT b t)).2)
  | 9 => ([.int .i64 (op : Nat), .int .u32 0, .int .u32 0, .int .u64 (IntKind.u64.wrap (IntKind.u32.wrap (IntKind.i32.wrap (tk (0 : Int) (rdS b 32 b.length) t).1))), .int .u32 0, .int .u32 0, .int .u64 0, .int .i64 0, .int .i64 0, .bool false, .int .i64 0, .slice false true 0 [], .slice false true 0 [], .bool false, .slice false true 0 [], .slice false true 0 [], .slice false true 0 []], (tk (0 : Int) (rdS b 32 b.length) t).2)
  | 10 => ([.int .i64 (op : Nat), .int .u32 0, .int .u32 0, .int .u64 (IntKind.u64.wrap (tk (0 : Int) (rdS b 64 b.length) t).1), .int .u32 0, .int .u32 0, .int .u64 0, .int .i64 0, .int .i64 0, .bool false, .int .i64 0, .slice false true 0 [], .slice false true 0 [], .bool false, .slice false true 0 [], .slice false true 0 [], .slice false true 0 []], (tk (0 : Int) (rdS b 64 b.length) t).2)
  | 11 => ([.int .i64 (op : Nat), .int .u32 0, .int .u32 0, .int .u64 ((tk (0 : Nat) (rdF b 4 b.length) t).1 : Nat), .int .u32 0, .int .u32 0, .int .u64 0, .int .i64 0, .int .i64 0, .bool false, .int .i64 0, .slice false true 0 [], .slice false true 0 [], .bool false, .slice false true 0 [], .slice false true 0 [], .slice false true 0 []], (tk (0 : Nat) (rdF b 4 b.length) t).2)
  | 12 => ([.int .i64 (op : Nat), .int .u32 0, .int .u32 0, .int .u64 ((tk (0 : Nat) (rdF b 8 b.length) t).1 : Nat), .int .u32 0, .int .u32 0, .int .u64 0, .int .i64 0, .int .i64 0, .bool false, .int .i64 0, .slice false true 0 [], .slice false true 0 [], .bool false, .slice false true 0 [], .slice false true 0 [], .slice false true 0 []], (tk (0 : Nat) (rdF b 8 b.length) t).2)
  | 13 => ([.int .i64 (op : Nat), .int .u32 0, .int .u32 0, .int .u64 0, .int .u32 0, .int .u32 0, .int .u64 0, .int .i64 0, .int .i64 0, .bool false, .int .i64 0, .slice false true 0 [], .slice false true 0 [], .bool false, .slice false true 0 [], accP 3 ([(⟨5, true, (tk (0 : Int) (rHeap b) t).1⟩ : VT)].map encV), .slice false true 0 []], (tk (0 : Int) (rHeap b) t).2)
  | 14 => ([.int .i64 (op : Nat), .int .u32 0, .int .u32 0, .int .u64 0, .int .u32 0, .int .u32 0, .int .u64 0, .int .i64 0, .int .i64 0, .bool false, .int .i64 0, .slice false true 0 [], .slice false true 0 [], .bool false, .slice false true 0 [], accP 3 ([(⟨5, ((op : Int) % 2 == 1), (tk (0 : Int) (rHeap b) t).1⟩ : VT)].map encV), .slice false true 0 []], (tk (0 : Int) (rHeap b) t).2)
  | 15 => ([.int .i64 (op : Nat), .int .u32 ((tk (0 : Nat) (rdU b 32 b.length) (smT b 3 t).2).1 : Nat), .int .u32 0, .int .u64 0, .int .u32 0, .int .u32 0, .int .u64 0, .int .i64 0, .int .i64 0, .bool false, .int .i64 0, .slice false true 0 [], .slice false true 0 [], .bool false, .slice false true 0 [], accP 3 ([(⟨5, ((smT b 3 t).1 % 2 != 0), (tk (0 : Int) (rHeap b) (tk (0 : Nat) (rdU b 32 b.length) (smT b 3 t).2).2).1⟩ : VT), (⟨5, ((smT b 3 t).1 / 2 % 2 * 2 != 0), (tk (0 : Int) (rHeap b) (tk (0 : Int) (rHeap b) (tk (0 : Nat) (rdU b 32 b.length) (smT b 3 t).2).2).2).1⟩ : VT)].map encV), .slice false true 0 []], (tk (0 : Int) (rHeap b) (tk (0 : Int) (rHeap b) (tk (0 : Nat) (rdU b 32 b.length) (smT b 3 t).2).2).2).2)
  | 16 => ([.int .i64 (op : Nat), .int .u32 ((tk (0 : Nat) (rdU b 32 b.length) t).1 : Nat), .int .u32 0, .int .u64 ((tk (0 : Nat) (rdU b 32 b.length) (tk (0 : Nat) (rdU b 32 b.length) t).2).1 : Nat), .int .u32 0, .int .u32 0, .int .u64 0, .int .i64 0, .int .i64 0, .bool false, .int .i64 0, .slice false true 0 [], .slice false true 0 [], .bool false, .slice false true 0 [], .slice false true 0 [], .slice false true 0 []], (tk (0 : Nat) (rdU b 32 b.length) (tk (0 : Nat) (rdU b 32 b.length) t).2).2)
  | _ => ([.int .i64 (op : Nat), .int .u32 0, .int .u32 0, .int .u64 0, .int .u32 0, .int .u32 0, .int .u64 0, .int .i64 0, .int .i64 0, .bool false, .int .i64 0, .slice false true 0 [], .slice false true 0 [], .bool false, .slice false true 0 [], .slice false true 0 [], .slice false true 0 []], t)
def rdBox (z : Bool) (b : List UInt8) (r : List PV × TS) : Box := .cells ([BS z b, .int .i64 r.2.p] ++ (r.1 ++ [.int .i64 r.2.bad, .int .i64 r.2.why]))
theorem imm_2 (hb : b.length < 2 ^ 61) (hp : p ≤ b.length) (hc : c < List.length H) : runK c (C u3f [.ptr c 0]) (St H c (.cells [BS z b, .int .i64 p, .int .i64 (op : Nat), .int .u32 0, .int .u32 0, .int .u64 0, .int .u32 0, .int .u32 0, .int .u64 0, .int .i64 0, .int .i64 0, .bool false, .int .i64 0, .slice false true 0 [], .slice false true 0 [], .bool false, .slice false true 0 [], .slice false true 0 [], .slice false true 0 [], .int .i64 bad, .int .i64 why]) L) = some (.ok (.tup []) (St H c (rdBox z b (imm 2 op b ⟨p, bad, why⟩)) L)) :=
  uux (c := c) (H := H) (L := L) (b := b) (z := z) (p := p) (bad := bad) (why := why) (m0 := .int .i64 (op : Nat)) (m1 := .int .u32 0) (m2 := .int .u32 0) (m3 := .int .u64 0) (m4 := .int .u32 0) (m5 := .int .u32 0) (m6 := .int .u64 0) (m7 := .int .i64 0) (m8 := .int .i64 0) (m9 := .bool false) (m10 := .int .i64 0) (m11 := .slice false true 0 []) (m12 := .slice false true 0 []) (m13 := .bool false) (m14 := .slice false true 0 []) (m15 := .slice false true 0 []) (m16 := .slice false true 0 [])  hb hp hc
theorem imm_3 (hb : b.length < 2 ^ 61) (hp : p ≤ b.length) (hc : c < List.length H) : runK c (C u3d [.ptr c 0]) (St H c (.cells [BS z b, .int .i64 p, .int .i64 (op : Nat), .int .u32 0, .int .u32 0, .int .u64 0, .int .u32 0, .int .u32 0, .int .u64 0, .int .i64 0, .int .i64 0, .bool false, .int .i64 0, .slice false true 0 [], .slice false true 0 [], .bool false, .slice false true 0 [], .slice false true 0 [], .slice false true 0 [], .int .i64 bad, .int .i64 why]) L) = some (.ok (.tup []) (St H c (rdBox z b (imm 3 op b ⟨p, bad, why⟩)) L)) :=
  itryS (c := c) (H := H) (L := L) (b := b) (z := z) (p := p) (bad := bad) (why := why) (m0 := .int .i64 (op : Nat)) (m1 := .int .u32 0) (m2 := .int .u32 0) (m3 := .int .u64 0) (m4 := .int .u32 0) (m5 := .int .u32 0) (m6 := .int .u64 0) (m7 := .int .i64 0) (m8 := .int .i64 0) (m9 := .bool false) (m10 := .int .i64 0) (m11 := .slice false true 0 []) (m12 := .slice false true 0 []) (m13 := .bool false) (m14 := .slice false true 0 []) (m15 := .slice false true 0 []) (l := []) (by decide) hb hp hc
theorem imm_4 (hb : b.length < 2 ^ 61) (hp : p ≤ b.length) (hc : c < List.length H) : runK c (C u4f [.ptr c 0]) (St H c (.cells [BS z b, .int .i64 p, .int .i64 (op : Nat), .int .u32 0, .int .u32 0, .int .u64 0, .int .u32 0, .int .u32 0, .int .u64 0, .int .i64 0, .int .i64 0, .bool false, .int .i64 0, .slice false true 0 [], .slice false true 0 [], .bool false, .slice false true 0 [], .slice false true 0 [], .slice false true 0 [], .int .i64 bad, .int .i64 why]) L) = some (.ok (.tup []) (St H c (rdBox z b (imm 4 op b ⟨p, bad, why⟩)) L)) :=
  ixS (c := c) (H := H) (L := L) (b := b) (z := z) (p := p) (bad := bad) (why := why) (m0 := .int .i64 (op : Nat)) (m1 := .int .u32 0) (m2 := .int .u32 0) (m3 := .int .u64 0) (m4 := .int .u32 0) (m5 := .int .u32 0) (m6 := .int .u64 0) (m7 := .int .i64 0) (m8 := .int .i64 0) (m9 := .bool false) (m10 := .int .i64 0) (m11 := .slice false true 0 []) (m12 := .slice false true 0 []) (m13 := .bool false) (m14 := .slice false true 0 []) (m15 := .slice false true 0 []) (m16 := .slice false true 0 [])  hb hp hc
theorem imm_5 (hb : b.length < 2 ^ 61) (hp : p ≤ b.length) (hc : c < List.length H) : runK c (C u5q [.ptr c 0]) (St H c (.cells [BS z b, .int .i64 p, .int .i64 (op : Nat), .int .u32 0, .int .u32 0, .int .u64 0, .int .u32 0, .int .u32 0, .int .u64 0, .int .i64 0, .int .i64 0, .bool false, .int .i64 0, .slice false true 0 [], .slice false true 0 [], .bool false, .slice false true 0 [], .slice false true 0 [], .slice false true 0 [], .int .i64 bad, .int .i64 why]) L) = some (.ok (.tup []) (St H c (rdBox z b (imm 5 op b ⟨p, bad, why⟩)) L)) :=
  ixyS (c := c) (H := H) (L := L) (b := b) (z := z) (p := p) (bad := bad) (why := why) (m0 := .int .i64 (op : Nat)) (m1 := .int .u32 0) (m2 := .int .u32 0) (m3 := .int .u64 0) (m4 := .int .u32 0) (m5 := .int .u32 0) (m6 := .int .u64 0) (m7 := .int .i64 0) (m8 := .int .i64 0) (m9 := .bool false) (m10 := .int .i64 0) (m11 := .slice false true 0 []) (m12 := .slice false true 0 []) (m13 := .bool false) (m14 := .slice false true 0 []) (m15 := .slice false true 0 []) (m16 := .slice false true 0 [])  hb hp hc
theorem imm_6 (hb : b.length < 2 ^ 61) (hp : p ≤ b.length) (hc : c < List.length H) : runK c (C u3e [.ptr c 0]) (St H c (.cells [BS z b, .int .i64 p, .int .i64 (op : Nat), .int .u32 0, .int .u32 0, .int .u64 0, .int .u32 0, .int .u32 0, .int .u64 0, .int .i64 0, .int .i64 0, .bool false, .int .i64 0, .slice false true 0 [], .slice false true 0 [], .bool false, .slice false true 0 [], .slice false true 0 [], .slice false true 0 [], .int .i64 bad, .int .i64 why]) L) = some (.ok (.tup []) (St H c (rdBox z b (imm 6 op b ⟨p, bad, why⟩)) L)) :=
  uzj (c := c) (H := H) (L := L) (b := b) (z := z) (p := p) (bad := bad) (why := why) (m0 := .int .i64 (op : Nat)) (m1 := .int .u32 0) (m2 := .int .u32 0) (m3 := .int .u64 0) (m4 := .int .u32 0) (m5 := .int .u32 0) (m6 := .int .u64 0) (m7 := .int .i64 0) (m8 := .int .i64 0) (m9 := .bool false) (m10 := .int .i64 0) (m11 := .slice false true 0 []) (m12 := .slice false true 0 []) (m13 := .bool false) (m15 := .slice false true 0 []) (m16 := .slice false true 0 []) (la := []) (by decide) hb hp hc
theorem imm_7 (hb : b.length < 2 ^ 61) (hp : p ≤ b.length) (hc : c < List.length H) : runK c (C u2y [.ptr c 0]) (St H c (.cells [BS z b, .int .i64 p, .int .i64 (op : Nat), .int .u32 0, .int .u32 0, .int .u64 0, .int .u32 0, .int .u32 0, .int .u64 0, .int .i64 0, .int .i64 0, .bool false, .int .i64 0, .slice false true 0 [], .slice false true 0 [], .bool false, .slice false true 0 [], .slice false true 0 [], .slice false true 0 [], .int .i64 bad, .int .i64 why]) L) = some (.ok (.tup []) (St H c (rdBox z b (imm 7 op b ⟨p, bad, why⟩)) L)) :=
  uwt (c := c) (H := H) (L := L) (b := b) (z := z) (p := p) (bad := bad) (why := why) (m0 := .int .i64 (op : Nat)) (m1 := .int .u32 0) (m2 := .int .u32 0) (m3 := .int .u64 0) (m4 := .int .u32 0) (m5 := .int .u32 0) (m6 := .int .u64 0) (m7 := .int .i64 0) (m8 := .int .i64 0) (m9 := .bool false) (m10 := .int .i64 0) (m11 := .slice false true 0 []) (m12 := .slice false true 0 []) (m13 := .bool false) (m14 := .slice false true 0 []) (m16 := .slice false true 0 []) (l := []) (by decide) hb hp hc
theorem imm_8 (hb : b.length < 2 ^ 61) (hp : p ≤ b.length) (hc : c < List.length H) : runK c (C u49 [.ptr c 0]) (St H c (.cells [BS z b, .int .i64 p, .int .i64 (op : Nat), .int .u32 0, .int .u32 0, .int .u64 0, .int .u32 0, .int .u32 0, .int .u64 0, .int .i64 0, .int .i64 0, .bool false, .int .i64 0, .slice false true 0 [], .slice false true 0 [], .bool false, .slice false true 0 [], .slice false true 0 [], .slice false true 0 [], .int .i64 bad, .int .i64 why]) L) = some (.ok (.tup []) (St H c (rdBox z b (imm 8 op b ⟨p, bad, why⟩)) L)) :=
  imemS (c := c) (H := H) (L := L) (b := b) (z := z) (p := p) (bad := bad) (why := why) (m0 := .int .i64 (op : Nat)) (m1 := .int .u32 0) (m2 := .int .u32 0) (m3 := .int .u64 0) (m4 := .int .u32 0) (m5 := .int .u32 0) (m6 := .int .u64 0) (m7 := .int .i64 0) (m8 := .int .i64 0) (m9 := .bool false) (m10 := .int .i64 0) (m11 := .slice false true 0 []) (m12 := .slice false true 0 []) (m13 := .bool false) (m14 := .slice false true 0 []) (m15 := .slice false true 0 []) (m16 := .slice false true 0 [])  hb hp hc
theorem imm_9 (hb : b.length < 2 ^ 61) (hp : p ≤ b.length) (hc : c < List.length H) : runK c (C u5b [.ptr c 0]) (St H c (.cells [BS z b, .int .i64 p, .int .i64 (op : Nat), .int .u32 0, .int .u32 0, .int .u64 0, .int .u32 0, .int .u32 0, .int .u64 0, .int .i64 0, .int .i64 0, .bool false, .int .i64 0, .slice false true 0 [], .slice false true 0 [], .bool false, .slice false true 0 [], .slice false true 0 [], .slice false true 0 [], .int .i64 bad, .int .i64 why]) L) = some (.ok (.tup []) (St H c (rdBox z b (imm 9 op b ⟨p, bad, why⟩)) L)) :=
  ii32S (c := c) (H := H) (L := L) (b := b) (z := z) (p := p) (bad := bad) (why := why) (m0 := .int .i64 (op : Nat)) (m1 := .int .u32 0) (m2 := .int .u32 0) (m3 := .int .u64 0) (m4 := .int .u32 0) (m5 := .int .u32 0) (m6 := .int .u64 0) (m7 := .int .i64 0) (m8 := .int .i64 0) (m9 := .bool false) (m10 := .int .i64 0) (m11 := .slice false true 0 []) (m12 := .slice false true 0 []) (m13 := .bool false) (m14 := .slice false true 0 []) (m15 := .slice false true 0 []) (m16 := .slice false true 0 [])  hb hp hc
theorem imm_10 (hb : b.length < 2 ^ 61) (hp : p ≤ b.length) (hc : c < List.length H) : runK c (C u5c [.ptr c 0]) (St H c (.cells [BS z b, .int .i64 p, .int .i64 (op : Nat), .int .u32 0, .int .u32 0, .int .u64 0, .int .u32 0, .int .u32 0, .int .u64 0, .int .i64 0, .int .i64 0, .bool false, .int .i64 0, .slice false true 0 [], .slice false true 0 [], .bool false, .slice false true 0 [], .slice false true 0 [], .slice false true 0 [], .int .i64 bad, .int .i64 why]) L) = some (.ok (.tup []) (St H c (rdBox z b (imm 10 op b ⟨p, bad, why⟩)) L)) :=
  ii64S (c := c) (H := H) (L := L) (b := b) (z := z) (p := p) (bad := bad) (why := why) (m0 := .int .i64 (op : Nat)) (m1 := .int .u32 0) (m2 := .int .u32 0) (m3 := .int .u64 0) (m4 := .int .u32 0) (m5 := .int .u32 0) (m6 := .int .u64 0) (m7 := .int .i64 0) (m8 := .int .i64 0) (m9 := .bool false) (m10 := .int .i64 0) (m11 := .slice false true 0 []) (m12 := .slice false true 0 []) (m13 := .bool false) (m14 := .slice false true 0 []) (m15 := .slice false true 0 []) (m16 := .slice false true 0 [])  hb hp hc
theorem imm_11 (hb : b.length < 2 ^ 61) (hp : p ≤ b.length) (hc : c < List.length H) : runK c (C u5a [.ptr c 0]) (St H c (.cells [BS z b, .int .i64 p, .int .i64 (op : Nat), .int .u32 0, .int .u32 0, .int .u64 0, .int .u32 0, .int .u32 0, .int .u64 0, .int .i64 0, .int .i64 0, .bool false, .int .i64 0, .slice false true 0 [], .slice false true 0 [], .bool false, .slice false true 0 [], .slice false true 0 [], .slice false true 0 [], .int .i64 bad, .int .i64 why]) L) = some (.ok (.tup []) (St H c (rdBox z b (imm 11 op b ⟨p, bad, why⟩)) L)) :=
  if32S (c := c) (H := H) (L := L) (b := b) (z := z) (p := p) (bad := bad) (why := why) (m0 := .int .i64 (op : Nat)) (m1 := .int .u32 0) (m2 := .int .u32 0) (m3 := .int .u64 0) (m4 := .int .u32 0) (m5 := .int .u32 0) (m6 := .int .u64 0) (m7 := .int .i64 0) (m8 := .int .i64 0) (m9 := .bool false) (m10 := .int .i64 0) (m11 := .slice false true 0 []) (m12 := .slice false true 0 []) (m13 := .bool false) (m14 := .slice false true 0 []) (m15 := .slice false true 0 []) (m16 := .slice false true 0 [])  hb hp hc
theorem imm_12 (hb : b.length < 2 ^ 61) (hp : p ≤ b.length) (hc : c < List.length H) : runK c (C u5d [.ptr c 0]) (St H c (.cells [BS z b, .int .i64 p, .int .i64 (op : Nat), .int .u32 0, .int .u32 0, .int .u64 0, .int .u32 0, .int .u32 0, .int .u64 0, .int .i64 0, .int .i64 0, .bool false, .int .i64 0, .slice false true 0 [], .slice false true 0 [], .bool false, .slice false true 0 [], .slice false true 0 [], .slice false true 0 [], .int .i64 bad, .int .i64 why]) L) = some (.ok (.tup []) (St H c (rdBox z b (imm 12 op b ⟨p, bad, why⟩)) L)) :=
  if64S (c := c) (H := H) (L := L) (b := b) (z := z) (p := p) (bad := bad) (why := why) (m0 := .int .i64 (op : Nat)) (m1 := .int .u32 0) (m2 := .int .u32 0) (m3 := .int .u64 0) (m4 := .int .u32 0) (m5 := .int .u32 0) (m6 := .int .u64 0) (m7 := .int .i64 0) (m8 := .int .i64 0) (m9 := .bool false) (m10 := .int .i64 0) (m11 := .slice false true 0 []) (m12 := .slice false true 0 []) (m13 := .bool false) (m14 := .slice false true 0 []) (m15 := .slice false true 0 []) (m16 := .slice false true 0 [])  hb hp hc
theorem imm_13 (hb : b.length < 2 ^ 61) (hp : p ≤ b.length) (hc : c < List.length H) : runK c (C u4v [.ptr c 0]) (St H c (.cells [BS z b, .int .i64 p, .int .i64 (op : Nat), .int .u32 0, .int .u32 0, .int .u64 0, .int .u32 0, .int .u32 0, .int .u64 0, .int .i64 0, .int .i64 0, .bool false, .int .i64 0, .slice false true 0 [], .slice false true 0 [], .bool false, .slice false true 0 [], .slice false true 0 [], .slice false true 0 [], .int .i64 bad, .int .i64 why]) L) = some (.ok (.tup []) (St H c (rdBox z b (imm 13 op b ⟨p, bad, why⟩)) L)) :=
  iheapS (c := c) (H := H) (L := L) (b := b) (z := z) (p := p) (bad := bad) (why := why) (m0 := .int .i64 (op : Nat)) (m1 := .int .u32 0) (m2 := .int .u32 0) (m3 := .int .u64 0) (m4 := .int .u32 0) (m5 := .int .u32 0) (m6 := .int .u64 0) (m7 := .int .i64 0) (m8 := .int .i64 0) (m9 := .bool false) (m10 := .int .i64 0) (m11 := .slice false true 0 []) (m12 := .slice false true 0 []) (m13 := .bool false) (m14 := .slice false true 0 []) (m16 := .slice false true 0 []) (l := []) (by decide) hb hp hc
theorem imm_14 (hb : b.length < 2 ^ 61) (hp : p ≤ b.length) (hc : c < List.length H) : runK c (C u4w [.ptr c 0]) (St H c (.cells [BS z b, .int .i64 p, .int .i64 (op : Nat), .int .u32 0, .int .u32 0, .int .u64 0, .int .u32 0, .int .u32 0, .int .u64 0, .int .i64 0, .int .i64 0, .bool false, .int .i64 0, .slice false true 0 [], .slice false true 0 [], .bool false, .slice false true 0 [], .slice false true 0 [], .slice false true 0 [], .int .i64 bad, .int .i64 why]) L) = some (.ok (.tup []) (St H c (rdBox z b (imm 14 op b ⟨p, bad, why⟩)) L)) :=
  icastS (c := c) (H := H) (L := L) (b := b) (z := z) (p := p) (bad := bad) (why := why) (m1 := .int .u32 0) (m2 := .int .u32 0) (m3 := .int .u64 0) (m4 := .int .u32 0) (m5 := .int .u32 0) (m6 := .int .u64 0) (m7 := .int .i64 0) (m8 := .int .i64 0) (m9 := .bool false) (m10 := .int .i64 0) (m11 := .slice false true 0 []) (m12 := .slice false true 0 []) (m13 := .bool false) (m14 := .slice false true 0 []) (m16 := .slice false true 0 []) (op := (op : Int)) (l := []) (by decide) hb hp hc
theorem imm_15 (hb : b.length < 2 ^ 61) (hp : p ≤ b.length) (hc : c < List.length H) : runK c (C u44 [.ptr c 0]) (St H c (.cells [BS z b, .int .i64 p, .int .i64 (op : Nat), .int .u32 0, .int .u32 0, .int .u64 0, .int .u32 0, .int .u32 0, .int .u64 0, .int .i64 0, .int .i64 0, .bool false, .int .i64 0, .slice false true 0 [], .slice false true 0 [], .bool false, .slice false true 0 [], .slice false true 0 [], .slice false true 0 [], .int .i64 bad, .int .i64 why]) L) = some (.ok (.tup []) (St H c (rdBox z b (imm 15 op b ⟨p, bad, why⟩)) L)) :=
  ux8 (c := c) (H := H) (L := L) (b := b) (z := z) (p := p) (bad := bad) (why := why) (m0 := .int .i64 (op : Nat)) (m1 := .int .u32 0) (m2 := .int .u32 0) (m3 := .int .u64 0) (m4 := .int .u32 0) (m5 := .int .u32 0) (m6 := .int .u64 0) (m7 := .int .i64 0) (m8 := .int .i64 0) (m9 := .bool false) (m10 := .int .i64 0) (m11 := .slice false true 0 []) (m12 := .slice false true 0 []) (m13 := .bool false) (m14 := .slice false true 0 []) (m16 := .slice false true 0 []) (l := []) (by decide) hb hp hc
theorem imm_16 (hb : b.length < 2 ^ 61) (hp : p ≤ b.length) (hc : c < List.length H) : runK c (C u5o [.ptr c 0]) (St H c (.cells [BS z b, .int .i64 p, .int .i64 (op : Nat), .int .u32 0, .int .u32 0, .int .u64 0, .int .u32 0, .int .u32 0, .int .u64 0, .int .i64 0, .int .i64 0, .bool false, .int .i64 0, .slice false true 0 [], .slice false true 0 [], .bool false, .slice false true 0 [], .slice false true 0 [], .slice false true 0 [], .int .i64 bad, .int .i64 why]) L) = some (.ok (.tup []) (St H c (rdBox z b (imm 16 op b ⟨p, bad, why⟩)) L)) :=
  ixnS (c := c) (H := H) (L := L) (b := b) (z := z) (p := p) (bad := bad) (why := why) (m0 := .int .i64 (op : Nat)) (m1 := .int .u32 0) (m2 := .int .u32 0) (m3 := .int .u64 0) (m4 := .int .u32 0) (m5 := .int .u32 0) (m6 := .int .u64 0) (m7 := .int .i64 0) (m8 := .int .i64 0) (m9 := .bool false) (m10 := .int .i64 0) (m11 := .slice false true 0 []) (m12 := .slice false true 0 []) (m13 := .bool false) (m14 := .slice false true 0 []) (m15 := .slice false true 0 []) (m16 := .slice false true 0 [])  hb hp hc
theorem imm_0 (hc : c < List.length H) : runK c (C u21 [.ptr c 0]) (St H c (.cells [BS z b, .int .i64 p, .int .i64 (op : Nat), .int .u32 0, .int .u32 0, .int .u64 0, .int .u32 0, .int .u32 0, .int .u64 0, .int .i64 0, .int .i64 0, .bool false, .int .i64 0, .slice false true 0 [], .slice false true 0 [], .bool false, .slice false true 0 [], .slice false true 0 [], .slice false true 0 [], .int .i64 bad, .int .i64 why]) L) = some (.ok (.tup []) (St H c (rdBox z b (imm 0 op b ⟨p, bad, why⟩)) L)) := liftT (fun H hc => by
  rw [u6r]
  simp +contextual -dsimp (disch := omega) only [↓kDown, kUp, ↓goDown, goUp, cr, simprocAttr] <;> rfl) hc
theorem imm_1 (hc : c < List.length H) : runK c (C u21 [.ptr c 0]) (St H c (.cells [BS z b, .int .i64 p, .int .i64 (op : Nat), .int .u32 0, .int .u32 0, .int .u64 0, .int .u32 0, .int .u32 0, .int .u64 0, .int .i64 0, .int .i64 0, .bool false, .int .i64 0, .slice false true 0 [], .slice false true 0 [], .bool false, .slice false true 0 [], .slice false true 0 [], .slice false true 0 [], .int .i64 bad, .int .i64 why]) L) = some (.ok (.tup []) (St H c (rdBox z b (imm 1 op b ⟨p, bad, why⟩)) L)) := liftT (fun H hc => by
  rw [u6r]
  simp +contextual -dsimp (disch := omega) only [↓kDown, kUp, ↓goDown, goUp, cr, simprocAttr] <;> rfl) hc
end Go.Proofs.YthidcpkcfoldmaaGreat.Pi.Q
