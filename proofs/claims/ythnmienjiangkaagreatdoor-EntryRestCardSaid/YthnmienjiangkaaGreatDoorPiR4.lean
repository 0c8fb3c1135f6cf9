/- What the law rests on, part 5 of 5: a reading of the program's code over told data, and what it comes to. -/
import Derived.Test.YthnmienjiangkaaGreatDoorPiR3
set_option linter.unusedVariables false
set_option linter.unusedSimpArgs false
set_option maxRecDepth 100000
namespace Go.Proofs.YthnmienjiangkaaGreatDoor.Pi.Q
open Go Go.Proofs.YthnmienjiangkaaGreatDoor.Pi
attribute [local congr] ite_congr
theorem upz {H : Heap} {b : List UInt8} {z : Bool} {p e : Nat} (he : e ≤ b.length) (hb : b.length < 2 ^ 61) :
    run (C ucc [.agg [BS z b, .int .i64 p, .int .i64 e]]) H = some (.ok (retU (rdU b 64 e p)) H) := by
  rw [upy]
  have h := ua2 (H := hadd H [.cells [BS z b, .int .i64 p, .int .i64 e]]) (z := z) (p := p) (B := 64) he (by omega) (.inr rfl)
  have h : run (C u1i [.agg [BS z b, .int .i64 p, .int .i64 e], .int .i64 64]) (hadd H [.cells [BS z b, .int .i64 p, .int .i64 e]]) = _ := h
  cases hr : rdU b 64 e p <;> rw [hr] at h <;> simp only [retU] at h ⊢ <;>
    simp +contextual -dsimp (disch := omega) only [↓goDown, goUp, cr, simprocAttr, h]
theorem uow {H : Heap} {b : List UInt8} {z : Bool} {p e : Nat} (he : e ≤ b.length) (hb : b.length < 2 ^ 61) (hp : p ≤ e) :
    run (C ue4 [BS z b, .int .i64 p, .int .i64 e]) H = some (.ok (retU (rdU b 64 e p)) H) := by
  have h1 : run (C u35 [BS z b, .int .i64 p, .int .i64 e, .fn ucc [] []]) H = some (.ok (retU (rdU b 64 e p)) H) := by
    rw [u7n]
    have h := upz (H := hadd H [.cells [BS z b, .int .i64 p, .int .i64 e]]) (z := z) (p := p) he hb
    cases hr : rdU b 64 e p <;> rw [hr] at h <;> simp only [retU] at h ⊢ <;>
      simp +contextual -dsimp (disch := omega) only [↓goDown, goUp, cr, simprocAttr, h, uc2 he hp]
  rw [upe]
  cases hr : rdU b 64 e p <;> rw [hr] at h1 <;> simp only [retU] at h1 ⊢ <;>
    simp +contextual -dsimp (disch := omega) only [↓goDown, goUp, cr, simprocAttr, h1]
theorem up4 {H : Heap} {b : List UInt8} {z : Bool} {c p q : Nat} {v : Nat} (hH : hget H c = some (curB z b p)) :
    run (C u39 [.ptr c 0, .int .u64 v, .int .i64 q, .int .i64 0]) H = some (.ok (.int .u64 v) (hset H c (curB z b q))) := by
  have hid := get_lt hH
  unfold curB at hH
  rw [u7h]
  simp +contextual -dsimp (disch := omega) only [↓goDown, goUp, cr, simprocAttr, hH, u8g]
  all_goals rfl
theorem uly {H : Heap} {r v : PV} {q e : Nat} (he : e ≠ 0) :
    run (C u39 [r, v, .int .i64 q, .int .i64 e]) H = some (.pan (flt q e) H) := by
  rw [u7h]
  have c0 : ¬ (e : Int) = 0 := by omega
  simp +contextual -dsimp (disch := omega) only [↓goDown, goUp, cr, simprocAttr, c0, u6r]
  all_goals rfl
theorem u64_is {H : Heap} {b : List UInt8} {z : Bool} {c p : Nat} (hH : hget H c = some (curB z b p)) (hb : b.length < 2 ^ 61) (hp : p ≤ b.length) :
    run (C u5m [.ptr c 0]) H = outC z b c H p (fun x : Nat => .int .u64 x) (rU64 b p) := by
  have hid := get_lt hH
  have hset := u1g hH
  have h1 := uow (H := H) (b := b) (z := z) (p := p) (Nat.le_refl _) hb hp
  have g1 := fun (q v : Nat) => up4 (q := q) (v := v) hH
  rw [ubh]
  unfold rU64
  unfold curB at hH
  cases hr : rdU b 64 b.length p with
  | ok v q =>
    rw [hr] at h1
    simp only [retU] at h1
    simp only [outC]
    simp +contextual -dsimp (disch := omega) only [↓goDown, goUp, cr, simprocAttr, hH, h1, g1, List.length_map]
  | err a w =>
    rw [hr] at h1
    simp only [retU] at h1
    simp only [outC, hset]
    have g2 := fun (u : PV) => uly (H := H) (r := .ptr c 0) (v := u) (q := a) (u7i hr)
    simp +contextual -dsimp (disch := omega) only [↓goDown, goUp, cr, simprocAttr, hH, h1, g2, List.length_map]
    all_goals rfl
theorem uvx {H : Heap} {b : List UInt8} {z : Bool} {c p l u : Nat} {w : Bool} {m1 m2 m3 : PV} (hH : hget H c = some (curB z b p)) (hl : hget H l = some (.cells [.bool w, m1, m2, m3])) (hu : hget H u = some (.cells [.ptr c 0])) (hb : b.length < 2 ^ 61) (hp : p ≤ b.length) :
    run (C u0n [.ptr l 0, .ptr u 0]) H = outC z b c H p (fun x : Nat => .int .u64 x) (rNum w b p) := by
  have h32 := u32_is hH hb hp
  have h64 := u64_is hH hb hp
  rw [u8q]
  unfold rNum
  cases w with
  | true =>
    simp only [if_true]
    cases hr : rU64 b p <;> rw [hr] at h64 <;> simp only [outC] at h64 ⊢ <;>
      simp +contextual -dsimp (disch := omega) only [↓goDown, goUp, cr, simprocAttr, hl, hu, h64, u5t]
  | false =>
    simp only [Bool.false_eq_true, if_false]
    cases hr : rU32 b p with
    | ok n q =>
      have hn := (uct hr).2
      rw [hr] at h32
      simp only [outC] at h32 ⊢
      simp +contextual -dsimp (disch := omega) only [↓goDown, goUp, cr, simprocAttr, hl, hu, h32]
    | err a w =>
      rw [hr] at h32
      simp only [outC] at h32 ⊢
      simp +contextual -dsimp (disch := omega) only [↓goDown, goUp, cr, simprocAttr, hl, hu, h32, u5t]
theorem uq0 {H : Heap} {b : List UInt8} {z : Bool} {c q x : Nat} {w h : Bool} (hx : (x = 0 ∧ w = false ∧ h = false) ∨ (x = 1 ∧ w = false ∧ h = true) ∨ (x = 4 ∧ w = true ∧ h = false) ∨ (x = 5 ∧ w = true ∧ h = true))
    (hid : c < H.length) (hb : b.length < 2 ^ 61) (hq : q ≤ b.length) :
    ∃ q2, truncR H (run (u2a (.ptr H.length 0) (.ptr (H.length + 1) 0) (.int .u8 x)) (hadd (Pi.hset H c (curB z b q)) [.cells [.ptr c 0], .cells [.bool false, .int .u64 0, .int .u64 0, .bool false]])) = outC z b c H q2 encLT (rLim2 w h b q) := by
  have hH1 : ∀ u L, hget (hadd (Pi.hset H c (curB z b u)) L) c = some (curB z b u) := fun u L => by rw [u81 (by rw [u8d]; exact hid)]; exact u5u hid
  have so : ∀ u v L, Pi.hset (hadd (Pi.hset H c (curB z b v)) L) c (curB z b u) = hadd (Pi.hset H c (curB z b u)) L := fun u v L => by rw [uab hid, set_set]
  have hn : ∀ w h u (m1 : PV), u ≤ b.length → run (C u0n [.ptr (H.length + 2) 0, .ptr H.length 0]) (hadd (Pi.hset H c (curB z b u)) [.cells [.ptr c 0], .cells [.bool false, .int .u64 0, .int .u64 0, .bool false], .cells [.bool w, m1, .int .u64 0, .bool h]]) = outC z b c (hadd (Pi.hset H c (curB z b u)) [.cells [.ptr c 0], .cells [.bool false, .int .u64 0, .int .u64 0, .bool false], .cells [.bool w, m1, .int .u64 0, .bool h]]) u (fun x : Nat => .int .u64 x) (rNum w b u) :=
    fun w h u m1 hu => uvx (hH1 u _) (by rw [uc4]; rfl) (by rw [uc7]; rfl) hb hu
  have k1 : run (mf u0n [] [.ptr (H.length + 2) 0, .ptr H.length 0]) = fun K => some (.ok (.fn u0n [] [.ptr (H.length + 2) 0, .ptr H.length 0]) K) := by
    funext K; rw [run_mf]; rfl
  have k2 : ∀ K, run (mf u0n [] [.ptr (H.length + 2) 0, .ptr H.length 0]) K = some (.ok (.fn u0n [] [.ptr (H.length + 2) 0, .ptr H.length 0]) K) := fun K => congrFun k1 K
  have k3 : strip (.fn u0n [] [.ptr (H.length + 2) 0, .ptr H.length 0]) = .fn u0n [] [.ptr (H.length + 2) 0, .ptr H.length 0] := rfl
  have a0 : ∀ K, run (bi .and .none (.int .u8 0) (.int .u8 1)) K = some (.ok (.int .u8 0) K) := fun K => rfl
  have a1 : ∀ K, run (bi .and .none (.int .u8 1) (.int .u8 1)) K = some (.ok (.int .u8 1) K) := fun K => rfl
  have a4 : ∀ K, run (bi .and .none (.int .u8 4) (.int .u8 1)) K = some (.ok (.int .u8 0) K) := fun K => rfl
  have a5 : ∀ K, run (bi .and .none (.int .u8 5) (.int .u8 1)) K = some (.ok (.int .u8 1) K) := fun K => rfl
  have g0 : ∀ K, run (bi .gtr .none (.int .u8 0) (.int .u8 1)) K = some (.ok (.bool false) K) := fun K => rfl
  have g1 : ∀ K, run (bi .gtr .none (.int .u8 1) (.int .u8 1)) K = some (.ok (.bool false) K) := fun K => rfl
  have g4 : ∀ K, run (bi .gtr .none (.int .u8 4) (.int .u8 1)) K = some (.ok (.bool true) K) := fun K => rfl
  have g5 : ∀ K, run (bi .gtr .none (.int .u8 5) (.int .u8 1)) K = some (.ok (.bool true) K) := fun K => rfl
  have h1 := hn w h q (.int .u64 0) hq
  rw [u6z]
  unfold rLim2
  cases hr : rNum w b q with
  | err a e =>
    refine ⟨q, ?_⟩
    rw [hr] at h1
    simp only [outC, so] at h1 ⊢
    rcases hx with ⟨rfl, rfl, rfl⟩ | ⟨rfl, rfl, rfl⟩ | ⟨rfl, rfl, rfl⟩ | ⟨rfl, rfl, rfl⟩ <;>
      simp +contextual -dsimp (disch := omega) only [↓goDown, goUp, cr, simprocAttr, a0, a1, a4, a5, g0, g1, g4, g5, k2, k3, uaf, h1, u5t]
  | ok mn q1 =>
    have hq1 := ucb q mn q1 hq hr
    have h2 := hn w h q1 (.int .u64 mn) hq1
    rw [hr] at h1
    simp only [outC, so] at h1 ⊢
    unfold rMaxi
    cases h with
    | false =>
      refine ⟨q1, ?_⟩
      simp only [Bool.false_eq_true, if_false, outC]
      rcases hx with ⟨rfl, rfl, hh⟩ | ⟨rfl, rfl, hh⟩ | ⟨rfl, rfl, hh⟩ | ⟨rfl, rfl, hh⟩ <;> first | cases hh | skip
      all_goals simp +contextual -dsimp (disch := omega) only [↓goDown, goUp, cr, simprocAttr, a0, a1, a4, a5, g0, g1, g4, g5, k2, k3, uaf, h1, u24, u26]
      all_goals rfl
    | true =>
      simp only [if_true]
      cases hr2 : rNum w b q1 with
      | err a e =>
        refine ⟨q1, ?_⟩
        rw [hr2] at h2
        simp only [outC, so] at h2 ⊢
        rcases hx with ⟨rfl, rfl, hh⟩ | ⟨rfl, rfl, hh⟩ | ⟨rfl, rfl, hh⟩ | ⟨rfl, rfl, hh⟩ <;> first | cases hh | skip
        all_goals simp +contextual -dsimp (disch := omega) only [↓goDown, goUp, cr, simprocAttr, a0, a1, a4, a5, g0, g1, g4, g5, k2, k3, uaf, h1, h2, u24, u5t]
      | ok mx q2 =>
        refine ⟨q2, ?_⟩
        rw [hr2] at h2
        simp only [outC, so] at h2 ⊢
        rcases hx with ⟨rfl, rfl, hh⟩ | ⟨rfl, rfl, hh⟩ | ⟨rfl, rfl, hh⟩ | ⟨rfl, rfl, hh⟩ <;> first | cases hh | skip
        all_goals simp +contextual -dsimp (disch := omega) only [↓goDown, goUp, cr, simprocAttr, a0, a1, a4, a5, g0, g1, g4, g5, k2, k3, uaf, h1, h2, u24, u26]
        all_goals rfl
theorem uqy {H : Heap} {b : List UInt8} {z : Bool} {c p : Nat} (hH : hget H c = some (curB z b p)) (hb : b.length < 2 ^ 61) (hp : p ≤ b.length) :
    ∃ q, run (C u0u [.ptr c 0]) H = outC z b c H q encLT (u68 b p) := by
  have hid := get_lt hH
  have hset := u1g hH
  have hH1 : ∀ L, hget (hadd H L) c = some (curB z b p) := fun L => by rw [u81 hid]; exact hH
  have so : ∀ u L, Pi.hset (hadd H L) c (curB z b u) = hadd (Pi.hset H c (curB z b u)) L := fun u L => by rw [ucn hid]
  have hs : ∀ L, run (C u0g [.ptr c 0, .int .u8 5]) (hadd H L) = outC z b c (hadd H L) p (fun n : Nat => .int .u8 n) (rSmall b 5 p) := fun L => unz (hH1 L) hb hp
  have hid1 : c < List.length H + 1 := by omega
  have hid2 : c < List.length H + 2 := by omega
  rw [u95]
  unfold u68
  cases hr : rSmall b 5 p with
  | err a e =>
    refine ⟨p, ?_⟩
    simp only [hr, outC, so] at hs ⊢
    simp +contextual -dsimp (disch := omega) only [↓goDown, goUp, cr, simprocAttr, hs, hid1, hid2, if_true, u5t]
  | ok x q =>
    obtain ⟨hx, hqp⟩ := uu5 hr
    have hq := (uch hr).1
    simp only [hr, outC, so] at hs
    dsimp only
    have hg : ∀ L, hget (hadd (Pi.hset H c (curB z b q)) L) c = some (.cells [BS z b, .int .i64 q]) := fun L => by rw [u81 (by rw [u8d]; exact hid)]; exact u5u hid
    by_cases h23 : 1 < x ∧ x < 4
    · refine ⟨q, ?_⟩
      rw [if_pos h23]
      have c1 : ((1 : Int) < x) = True := eq_true (by omega)
      have c2 : ((x : Int) < 4) = True := eq_true (by omega)
      have e1 : (q : Int) - 1 = p := by omega
      simp only [outC]
      simp +contextual -dsimp (disch := omega) only [↓goDown, goUp, cr, simprocAttr, hs, c1, c2, hg, e1, hid1, hid2, if_true, u6r]
      all_goals rfl
    · rw [if_neg h23]
      have hxx : (x = 0 ∨ x = 1) ∨ (x = 4 ∨ x = 5) := by omega
      obtain ⟨q2, he⟩ := uq0 (H := H) (c := c) (z := z) (x := x) (w := decide (1 < x)) (h := (x % 2 == 1)) (by rcases hxx with (rfl | rfl) | (rfl | rfl) <;> decide) hid hb hq
      refine ⟨q2, ?_⟩
      rw [← he]
      rcases hxx with hxx | hxx
      · have c1 : ((1 : Int) < x) = False := eq_false (by omega)
        simp +contextual -dsimp (disch := omega) only [↓goDown, goUp, cr, simprocAttr, hs, c1, hid1, hid2, if_true]
      · have c1 : ((1 : Int) < x) = True := eq_true (by omega)
        have c2 : ((x : Int) < 4) = False := eq_false (by omega)
        simp +contextual -dsimp (disch := omega) only [↓goDown, goUp, cr, simprocAttr, hs, c1, c2, hid1, hid2, if_true]
theorem uq2 {H : Heap} {b : List UInt8} {z : Bool} {c p q : Nat} {v : ByteArray} (hH : hget H c = some (curB z b p)) :
    run (C u3a [.ptr c 0, .str v, .int .i64 q, .int .i64 0]) H = some (.ok (.str v) (hset H c (curB z b q))) := by
  have hid := get_lt hH
  unfold curB at hH
  rw [u7j]
  simp +contextual -dsimp (disch := omega) only [↓goDown, goUp, cr, simprocAttr, hH, u8e]
  all_goals rfl
theorem ulq {H : Heap} {r v : PV} {q e : Nat} (he : e ≠ 0) :
    run (C u3a [r, v, .int .i64 q, .int .i64 e]) H = some (.pan (flt q e) H) := by
  rw [u7j]
  have c0 : ¬ (e : Int) = 0 := by omega
  simp +contextual -dsimp (disch := omega) only [↓goDown, goUp, cr, simprocAttr, c0, u6r]
  all_goals rfl
theorem nm_is {H : Heap} {b : List UInt8} {z : Bool} {c p : Nat} (hH : hget H c = some (curB z b p)) (hb : b.length < 2 ^ 60) (hp : p ≤ b.length) :
    ∃ q, run (C u29 [.ptr c 0]) H = outC z b c H q (fun u : List UInt8 => .str ⟨u.toArray⟩) (rNm b p) := by
  have hid := get_lt hH
  have hset := u1g hH
  have h1 := uw1 (H := H) (z := z) hb (at_ := (p : Int))
  unfold nameP at h1
  rw [if_neg (by omega), Int.toNat_natCast] at h1
  have g1 := fun (q : Nat) (v : ByteArray) => uq2 (q := q) (v := v) hH
  rw [uao]
  refine ⟨p, ?_⟩
  unfold rNm
  unfold curB at hH
  cases hr : rName b b.length p with
  | ok v q =>
    rw [hr] at h1
    simp only [tupN, SB] at h1
    simp only [outC]
    simp +contextual -dsimp (disch := omega) only [↓goDown, goUp, cr, simprocAttr, hH, h1, g1, List.length_map]
  | err a w =>
    rw [hr] at h1
    simp only [tupN] at h1
    simp only [outC, hset]
    have g2 := fun (u : PV) => ulq (H := H) (r := .ptr c 0) (v := u) (q := a) (ubx hr)
    simp +contextual -dsimp (disch := omega) only [↓goDown, goUp, cr, simprocAttr, hH, h1, g2, List.length_map]
    all_goals rfl
end Go.Proofs.YthnmienjiangkaaGreatDoor.Pi.Q
namespace Go.Proofs.YthnmienjiangkaaGreatDoor.Pi.Q
open Go Go.Proofs.YthnmienjiangkaaGreatDoor.Pi
attribute [local congr] ite_congr
variable {c : Nat} {H : Heap} {L : List Box} {b : List UInt8} {z : Bool} {α β : Type}
abbrev Pl (b : List UInt8) := {p : Nat // p ≤ b.length}
def cB (z : Bool) {b : List UInt8} (s : Pl b) : Box := curB z b s.1
def kRd {b : List UInt8} {r : Nat → Rs α} (hr : Ends b r) (s : Pl b) : Res (Pl b) α :=
  match h : r s.1 with
  | .ok v q => .ok v ⟨q, hr _ _ _ s.2 h⟩
  | .err a w => .err u0t [(a : Int), (w : Int)]
theorem kRd_ok {r : Nat → Rs α} {hr : Ends b r} {s : Pl b} {v : α} {q : Nat} (h : r s.1 = .ok v q) : kRd hr s = .ok v ⟨q, hr _ _ _ s.2 h⟩ := by
  unfold kRd
  split
  · rename_i v' q' h'
    have := h'.symm.trans h
    simp only [Rs.ok.injEq] at this
    obtain ⟨rfl, rfl⟩ := this
    rfl
  · rename_i a w h'
    exact absurd (h'.symm.trans h) (by simp)
theorem ucv {r : Nat → Rs α} {hr : Ends b r} {s : Pl b} {a w : Nat} (h : r s.1 = .err a w) : kRd hr s = .err u0t [(a : Int), (w : Int)] := by
  unfold kRd
  split
  · rename_i v' q' h'
    exact absurd (h'.symm.trans h) (by simp)
  · rename_i a' w' h'
    have := h'.symm.trans h
    simp only [Rs.err.injEq] at this
    obtain ⟨rfl, rfl⟩ := this
    rfl
theorem kRd_eq {r r' : Nat → Rs α} {hr : Ends b r} {hr' : Ends b r'} {s s' : Pl b} (h : r s.1 = r' s'.1) : kRd hr s = kRd hr' s' := by
  cases h1 : r' s'.1 with
  | ok v q => rw [kRd_ok h1, kRd_ok (h.trans h1)]
  | err a w => rw [ucv h1, ucv (h.trans h1)]
theorem u3d {r : Nat → Rs α} {g : α → Nat → Rs β} {hr : Ends b r} {hg : ∀ v, Ends b (g v)} {hb : Ends b (rBind r g)} {s : Pl b} : kRd hb s = (kRd hr s).bind fun v q => kRd (hg v) q := by
  cases h : r s.1 with
  | ok v q =>
    rw [kRd_ok h]
    show _ = kRd (hg v) ⟨q, _⟩
    refine kRd_eq ?_
    unfold rBind
    rw [h]
  | err a w =>
    rw [ucv h]
    refine ucv ?_
    unfold rBind
    rw [h]
theorem curK {m : M PV} {enc : α → PV} {r : Nat → Rs α} (hr : Ends b r) {s : Pl b} (h : ∀ H, hget H c = some (curB z b s.1) → ∃ q, run m H = outC z b c H q enc (r s.1)) (hc : c < List.length H) :
    runK c m (St H c (cB z s) L) = outK c H L (cB z) enc (kRd hr s) := by
  obtain ⟨q, hh⟩ := h (St H c (cB z s) L) (get_St hc)
  unfold runK
  rw [hh]
  cases h1 : r s.1 with
  | ok v q =>
    rw [kRd_ok h1]
    simp only [outC, set_St hc]
    rfl
  | err a w =>
    rw [ucv h1]
    simp only [outC, uc9, set_set, set_St hc]
    rfl
def outB (z : Bool) (b : List UInt8) (c : Nat) (H : Heap) (X : Box) (enc : α → PV) : Rs α → Option (Out PV)
  | .ok v p => some (.ok (enc v) (hset H c (curB z b p)))
  | .err p e => some (.pan (flt p e) (hset H c X))
theorem St_nil {x : Box} : St H c x [] = hset H c x := List.append_nil _
theorem uck {m : M PV} {enc : α → PV} {r : Nat → Rs α} (hr : Ends b r) {p : Nat} (hp : p ≤ b.length) (hH : hget H c = some (curB z b p))
    (h : ∀ H, c < List.length H → runK c m (St H c (cB z ⟨p, hp⟩) []) = outK c H [] (cB z) enc (kRd hr ⟨p, hp⟩)) : ∃ X, run m H = outB z b c H X enc (r p) := by
  have hid := get_lt hH
  have hh := h H hid
  have hS : St H c (cB z ⟨p, hp⟩) [] = H := St_nil.trans (u1g hH)
  rw [hS] at hh
  cases h1 : r p with
  | ok v q =>
    rw [kRd_ok h1] at hh
    refine ⟨.dead, (urf hh).trans ?_⟩
    rw [St_nil]
    rfl
  | err a w =>
    rw [ucv h1] at hh
    obtain ⟨X, hX⟩ := uoz hid hh
    refine ⟨X, hX.trans ?_⟩
    rw [St_nil]
    rfl
theorem refCK {s : Pl b} (hb : b.length < 2 ^ 60) (hc : c < List.length H) : runK c (C u2c [.ptr c 0]) (St H c (cB z s) L) = outK c H L (cB z) encV (kRd u93 s) := curK u93 (fun H hH => ref_is hH (by omega) s.2) hc
theorem valCK {s : Pl b} (hb : b.length < 2 ^ 60) (hc : c < List.length H) : runK c (C u3c [.ptr c 0]) (St H c (cB z s) L) = outK c H L (cB z) encV (kRd u90 s) := curK u90 (fun H hH => val_is hH (by omega) s.2) hc
theorem limCK {s : Pl b} (hb : b.length < 2 ^ 60) (hc : c < List.length H) : runK c (C u0u [.ptr c 0]) (St H c (cB z s) L) = outK c H L (cB z) encLT (kRd u1x s) := curK u1x (fun H hH => uqy hH (by omega) s.2) hc
theorem uqo {s : Pl b} (hb : b.length < 2 ^ 60) (hc : c < List.length H) : runK c (C u21 [.ptr c 0]) (St H c (cB z s) L) = outK c H L (cB z) (fun n : Int => .int .i64 n) (kRd u38 s) := curK u38 (fun H hH => utr hH (by omega) s.2) hc
theorem uhq {s : Pl b} {most : Nat} (hb : b.length < 2 ^ 60) (hc : c < List.length H) : runK c (C u0g [.ptr c 0, .int .u8 most]) (St H c (cB z s) L) = outK c H L (cB z) (fun n : Nat => .int .u8 n) (kRd (u1a (most := most)) s) := curK u1a (fun H hH => ⟨s.1, unz hH (by omega) s.2⟩) hc
theorem ual {b : List UInt8} : Ends b (rU32 b) := fun p v q hp h => (uct h).1
theorem u32CK {s : Pl b} (hb : b.length < 2 ^ 60) (hc : c < List.length H) : runK c (C u2e [.ptr c 0]) (St H c (cB z s) L) = outK c H L (cB z) (fun n : Nat => .int .u32 n) (kRd ual s) := curK ual (fun H hH => ⟨s.1, u32_is hH (by omega) s.2⟩) hc
theorem nmCK {s : Pl b} (hb : b.length < 2 ^ 60) (hc : c < List.length H) : runK c (C u29 [.ptr c 0]) (St H c (cB z s) L) = outK c H L (cB z) (fun u : List UInt8 => .str ⟨u.toArray⟩) (kRd u50 s) := curK u50 (fun H hH => nm_is hH hb s.2) hc
theorem utc {v : VT} : encV v = .agg [.int .i64 v.num, .bool v.nul, .int .i64 v.heap] := nrfl rfl
theorem usv {s : Pl b} : kRd u4s s = (kRd u93 s).bind fun v s => (kRd u1x s).bind fun l s => .ok ⟨v, l⟩ s := by
  refine (u3d (hr := u93) (hg := fun v => u0i u1x fun l => u0a)).trans ?_
  congr 1; funext v s
  refine (u3d (hr := u1x) (hg := fun l => u0a)).trans ?_
  congr 1
theorem utj {s : Pl b} (hb : b.length < 2 ^ 60) (hc : c < List.length H) : runK c (C u22 [.ptr c 0]) (St H c (cB z s) L) = outK c H L (cB z) encTB (kRd u4s s) := liftK (fun H hc => by
  have h1 := fun L (s : Pl b) => refCK (L := L) (s := s) (z := z) hb hc
  have h2 := fun L (s : Pl b) => limCK (L := L) (s := s) (z := z) hb hc
  rw [u9t, usv]
  simp +contextual -dsimp (disch := omega) only [↓kDown, kUp, ↓goDown, goUp, cr, simprocAttr, h1, h2, utc, u26, u3r] <;> rfl) hc
theorem upb {s : Pl b} : kRd u2z s = (kRd u90 s).bind fun v s => (kRd (u1a (most := 1)) s).bind fun n s => .ok ⟨v, n == 1⟩ s := by
  refine (u3d (hr := u90) (hg := fun v => u0i u1a fun l => u0a)).trans ?_
  congr 1; funext v s
  refine (u3d (hr := u1a) (hg := fun l => u0a)).trans ?_
  congr 1
theorem uwu {n : Nat} : ((n : Int) == 1) = (n == 1) := by rw [Bool.eq_iff_iff]; simp; omega
theorem umn {s : Pl b} (hb : b.length < 2 ^ 60) (hc : c < List.length H) : runK c (C u1v [.ptr c 0]) (St H c (cB z s) L) = outK c H L (cB z) encGO (kRd u2z s) := liftK (fun H hc => by
  have h1 := fun L (s : Pl b) => valCK (L := L) (s := s) (z := z) hb hc
  have h2 : ∀ L (s : Pl b), runK c (C u0g [.ptr c 0, .int .u8 1]) (St H c (cB z s) L) = _ := fun L (s : Pl b) => uhq (L := L) (s := s) (most := 1) (z := z) hb hc
  rw [u98, upb]
  simp +contextual -dsimp (disch := omega) only [↓kDown, kUp, ↓goDown, goUp, cr, simprocAttr, h1, h2, utc, u3g, uwu] <;> rfl) hc
theorem uwk {s : Pl b} : kRd u55 s = (kRd (u1a (most := 0)) s).bind fun n s => kRd u38 s := u3d (hr := u1a) (hg := fun _ => u38)
theorem tagCK {s : Pl b} (hb : b.length < 2 ^ 60) (hc : c < List.length H) : runK c (C u2d [.ptr c 0]) (St H c (cB z s) L) = outK c H L (cB z) (fun n : Int => .int .i64 n) (kRd u55 s) := liftK (fun H hc => by
  have h1 := fun L (s : Pl b) => uqo (L := L) (s := s) (z := z) hb hc
  have h2 : ∀ L (s : Pl b), runK c (C u0g [.ptr c 0, .int .u8 0]) (St H c (cB z s) L) = _ := fun L (s : Pl b) => uhq (L := L) (s := s) (most := 0) (z := z) hb hc
  rw [ubg, uwk]
  simp +contextual -dsimp (disch := omega) only [↓kDown, kUp, ↓goDown, goUp, cr, simprocAttr, h1, h2] <;> rfl) hc
theorem uvc {p : Prop} [Decidable p] {r r' : Nat → Rs α} {h : Ends b fun q => if p then r q else r' q} {hr : Ends b r} {hr' : Ends b r'} {s : Pl b} : kRd h s = if p then kRd hr s else kRd hr' s := by
  by_cases hp : p
  · rw [if_pos hp]; exact kRd_eq (if_pos hp)
  · rw [if_neg hp]; exact kRd_eq (if_neg hp)
theorem utv {k : Int} {s : Pl b} : kRd (u9x (k := k)) s =
    if k = 0 then (kRd u38 s).bind fun n s => .ok ⟨k, n, zTB, zLT, zGO⟩ s
    else if k = 1 then (kRd u4s s).bind fun v s => .ok ⟨k, 0, v, zLT, zGO⟩ s
    else if k = 2 then (kRd u1x s).bind fun v s => .ok ⟨k, 0, zTB, v, zGO⟩ s
    else if k = 3 then (kRd u2z s).bind fun v s => .ok ⟨k, 0, zTB, zLT, v⟩ s
    else if k = 4 then (kRd u55 s).bind fun n s => .ok ⟨k, n, zTB, zLT, zGO⟩ s
    else .ok ⟨k, 0, zTB, zLT, zGO⟩ s := by
  have h0 : ∀ {r r' : Nat → Rs XT} {c : Prop} [Decidable c] {h : Ends b fun q => if c then r q else r' q} (hr : Ends b r) (hr' : Ends b r'), kRd h s = if c then kRd hr s else kRd hr' s := fun hr hr' => uvc (hr := hr) (hr' := hr')
  refine (h0 (u0i u38 fun _ => u0a) (u46 (u0i u4s fun _ => u0a) (u46 (u0i u1x fun _ => u0a)
    (u46 (u0i u2z fun _ => u0a) (u46 (u0i u55 fun _ => u0a) u0a))))).trans ?_
  congr 1
  · exact u3d (hr := u38) (hg := fun _ => u0a)
  refine (h0 (u0i u4s fun _ => u0a) (u46 (u0i u1x fun _ => u0a)
    (u46 (u0i u2z fun _ => u0a) (u46 (u0i u55 fun _ => u0a) u0a)))).trans ?_
  congr 1
  · exact u3d (hr := u4s) (hg := fun _ => u0a)
  refine (h0 (u0i u1x fun _ => u0a)
    (u46 (u0i u2z fun _ => u0a) (u46 (u0i u55 fun _ => u0a) u0a))).trans ?_
  congr 1
  · exact u3d (hr := u1x) (hg := fun _ => u0a)
  refine (h0 (u0i u2z fun _ => u0a) (u46 (u0i u55 fun _ => u0a) u0a)).trans ?_
  congr 1
  · exact u3d (hr := u2z) (hg := fun _ => u0a)
  refine (h0 (u0i u55 fun _ => u0a) u0a).trans ?_
  congr 1
  · exact u3d (hr := u55) (hg := fun _ => u0a)
theorem upw {s : Pl b} : kRd ub8 s = (kRd u50 s).bind fun m s => (kRd u50 s).bind fun n s => (kRd (u1a (most := 4)) s).bind fun k s => (kRd (u9x (k := IntKind.i64.wrap (k : Int))) s).bind fun x s => .ok ⟨⟨m.toArray⟩, ⟨n.toArray⟩, x⟩ s := by
  refine (u3d (hr := u50) (hg := fun _ => u0i u50 fun _ => u0i uc5 fun _ => u0a)).trans ?_
  congr 1; funext m s
  refine (u3d (hr := u50) (hg := fun _ => u0i uc5 fun _ => u0a)).trans ?_
  congr 1; funext n s
  refine (u3d (hr := uc5) (hg := fun _ => u0a)).trans ?_
  rw [show kRd uc5 s = (kRd (u1a (most := 4)) s).bind fun k s => kRd (u9x (k := IntKind.i64.wrap (k : Int))) s from u3d (hr := u1a) (hg := fun _ => u9x)]
  cases kRd (u1a (most := 4)) s <;> rfl
theorem uub {s : Pl b} (hb : b.length < 2 ^ 60) (hc : c < List.length H) : runK c (C u1l [.ptr c 0]) (St H c (cB z s) L) = outK c H L (cB z) encIM (kRd ub8 s) := liftK (fun H hc => by
  have h1 := fun L (s : Pl b) => nmCK (L := L) (s := s) (z := z) hb hc
  have h2 : ∀ L (s : Pl b), runK c (C u0g [.ptr c 0, .int .u8 4]) (St H c (cB z s) L) = _ := fun L (s : Pl b) => uhq (L := L) (s := s) (most := 4) (z := z) hb hc
  have h3 := fun L (s : Pl b) => uqo (L := L) (s := s) (z := z) hb hc
  have h4 := fun L (s : Pl b) => utj (L := L) (s := s) (z := z) hb hc
  have h5 := fun L (s : Pl b) => limCK (L := L) (s := s) (z := z) hb hc
  have h6 := fun L (s : Pl b) => umn (L := L) (s := s) (z := z) hb hc
  have h7 := fun L (s : Pl b) => tagCK (L := L) (s := s) (z := z) hb hc
  rw [u8i, upw]
  cases e1 : kRd u50 s with
  | err t l =>
    simp only [Res.bind]
    simp +contextual -dsimp (disch := omega) only [↓kDown, kUp, ↓goDown, goUp, cr, simprocAttr, h1, h2, h3, h4, h5, h6, h7, u3i, if_true, e1, u05, u3r, u26, u3g, u2r]
    all_goals rfl
  | no =>
    simp only [Res.bind]
    simp +contextual -dsimp (disch := omega) only [↓kDown, kUp, ↓goDown, goUp, cr, simprocAttr, h1, h2, h3, h4, h5, h6, h7, u3i, if_true, e1, u05, u3r, u26, u3g, u2r]
    all_goals rfl
  | ok m s1 =>
    simp only [Res.bind]
    cases e2 : kRd u50 s1 with
    | err t l =>
      simp +contextual -dsimp (disch := omega) only [↓kDown, kUp, ↓goDown, goUp, cr, simprocAttr, h1, h2, h3, h4, h5, h6, h7, u3i, if_true, e1, e2, u05, u3r, u26, u3g, u2r]
      all_goals rfl
    | no =>
      simp +contextual -dsimp (disch := omega) only [↓kDown, kUp, ↓goDown, goUp, cr, simprocAttr, h1, h2, h3, h4, h5, h6, h7, u3i, if_true, e1, e2, u05, u3r, u26, u3g, u2r]
      all_goals rfl
    | ok n s2 =>
      simp only
      cases e3 : kRd (u1a (most := 4)) s2 with
      | err t l =>
        simp +contextual -dsimp (disch := omega) only [↓kDown, kUp, ↓goDown, goUp, cr, simprocAttr, h1, h2, h3, h4, h5, h6, h7, u3i, if_true, e1, e2, e3, u05, u3r, u26, u3g, u2r]
        all_goals rfl
      | no =>
        simp +contextual -dsimp (disch := omega) only [↓kDown, kUp, ↓goDown, goUp, cr, simprocAttr, h1, h2, h3, h4, h5, h6, h7, u3i, if_true, e1, e2, e3, u05, u3r, u26, u3g, u2r]
        all_goals rfl
      | ok k s3 =>
        simp only
        rw [utv]
        have hj : ∃ j, IntKind.i64.wrap (k : Int) = j := ⟨_, rfl⟩
        obtain ⟨j, hj⟩ := hj
        simp only [hj]
        by_cases c0 : j = 0
        · rw [if_pos c0]
          cases e4 : kRd u38 s3 <;> simp +contextual -dsimp (disch := omega) only [↓kDown, kUp, ↓goDown, goUp, cr, simprocAttr, h1, h2, h3, h4, h5, h6, h7, u3i, if_true, e1, e2, e3, hj, eq_true c0, e4, u05, u3r, u26, u3g, u2r] <;> rfl
        by_cases c1 : j = 1
        · rw [if_neg c0, if_pos c1]
          cases e4 : kRd u4s s3 <;> simp +contextual -dsimp (disch := omega) only [↓kDown, kUp, ↓goDown, goUp, cr, simprocAttr, h1, h2, h3, h4, h5, h6, h7, u3i, if_true, e1, e2, e3, hj, eq_false c0, eq_true c1, e4, u05, u3r, u26, u3g, u2r] <;> rfl
        by_cases c2 : j = 2
        · rw [if_neg c0, if_neg c1, if_pos c2]
          cases e4 : kRd u1x s3 <;> simp +contextual -dsimp (disch := omega) only [↓kDown, kUp, ↓goDown, goUp, cr, simprocAttr, h1, h2, h3, h4, h5, h6, h7, u3i, if_true, e1, e2, e3, hj, eq_false c0, eq_false c1, eq_true c2, e4, u05, u3r, u26, u3g, u2r] <;> rfl
        by_cases c3 : j = 3
        · rw [if_neg c0, if_neg c1, if_neg c2, if_pos c3]
          cases e4 : kRd u2z s3 <;> simp +contextual -dsimp (disch := omega) only [↓kDown, kUp, ↓goDown, goUp, cr, simprocAttr, h1, h2, h3, h4, h5, h6, h7, u3i, if_true, e1, e2, e3, hj, eq_false c0, eq_false c1, eq_false c2, eq_true c3, e4, u05, u3r, u26, u3g, u2r] <;> rfl
        by_cases c4 : j = 4
        · rw [if_neg c0, if_neg c1, if_neg c2, if_neg c3, if_pos c4]
          cases e4 : kRd u55 s3 <;> simp +contextual -dsimp (disch := omega) only [↓kDown, kUp, ↓goDown, goUp, cr, simprocAttr, h1, h2, h3, h4, h5, h6, h7, u3i, if_true, e1, e2, e3, hj, eq_false c0, eq_false c1, eq_false c2, eq_false c3, eq_true c4, e4, u05, u3r, u26, u3g, u2r] <;> rfl
        · rw [if_neg c0, if_neg c1, if_neg c2, if_neg c3, if_neg c4]
          simp +contextual -dsimp (disch := omega) only [↓kDown, kUp, ↓goDown, goUp, cr, simprocAttr, h1, h2, h3, h4, h5, h6, h7, u3i, if_true, e1, e2, e3, hj, eq_false c0, eq_false c1, eq_false c2, eq_false c3, eq_false c4, u05, u3r, u26, u3g, u2r]
          all_goals rfl) hc
theorem upv {s : Pl b} : kRd ubi s = (kRd u50 s).bind fun n s => (kRd (u1a (most := 4)) s).bind fun k s => (kRd ual s).bind fun a s => .ok ⟨⟨n.toArray⟩, IntKind.i64.wrap (k : Int), a⟩ s := by
  refine (u3d (hr := u50) (hg := fun _ => u0i u1a fun _ => u0i ual fun _ => u0a)).trans ?_
  congr 1; funext n s
  refine (u3d (hr := u1a) (hg := fun _ => u0i ual fun _ => u0a)).trans ?_
  congr 1; funext k s
  exact u3d (hr := ual) (hg := fun _ => u0a)
theorem uu2 {s : Pl b} (hb : b.length < 2 ^ 60) (hc : c < List.length H) : runK c (C u1z [.ptr c 0]) (St H c (cB z s) L) = outK c H L (cB z) encEX (kRd ubi s) := liftK (fun H hc => by
  have h1 := fun L (s : Pl b) => nmCK (L := L) (s := s) (z := z) hb hc
  have h2 : ∀ L (s : Pl b), runK c (C u0g [.ptr c 0, .int .u8 4]) (St H c (cB z s) L) = _ := fun L (s : Pl b) => uhq (L := L) (s := s) (most := 4) (z := z) hb hc
  have h3 := fun L (s : Pl b) => u32CK (L := L) (s := s) (z := z) hb hc
  rw [u8n, upv]
  simp +contextual -dsimp (disch := omega) only [↓kDown, kUp, ↓goDown, goUp, cr, simprocAttr, h1, h2, h3, u7v] <;> rfl) hc
end Go.Proofs.YthnmienjiangkaaGreatDoor.Pi.Q
namespace Go.Proofs.YthnmienjiangkaaGreatDoor.Pi.Q
open Go Go.Proofs.YthnmienjiangkaaGreatDoor.Pi
attribute [local congr] ite_congr
variable {c : Nat} {H : Heap} {L : List Box} {b : List UInt8} {z : Bool} {α β : Type}
structure ES (b : List UInt8) where
  p : Nat
  pl : Nat
  er : Nat
  ok : er = 0 → pl = 0 ∧ p ≤ b.length
def tX (v0 : α) (x : Nat → α × Nat) {r : Nat → Rs α} (he : Ends b r) (hw : Errs r) (t : ES b) : α × ES b :=
  if h : t.er = 0 then
    match hr : r t.p with
    | .ok v q => (v, ⟨q, 0, 0, fun _ => ⟨rfl, he _ _ _ (t.ok h).2 hr⟩⟩)
    | .err a w => ((x t.p).1, ⟨(x t.p).2, a, w, fun h0 => absurd h0 (hw _ _ _ hr)⟩)
  else (v0, t)
theorem tX_st {v0 : α} {x : Nat → α × Nat} {r : Nat → Rs α} {he : Ends b r} {hw : Errs r} {t : ES b} (h : t.er ≠ 0) : tX v0 x he hw t = (v0, t) := by
  unfold tX
  rw [dif_neg h]
theorem tX_ok {v0 : α} {x : Nat → α × Nat} {r : Nat → Rs α} {he : Ends b r} {hw : Errs r} {t : ES b} (h : t.er = 0) {v : α} {q : Nat} (hr : r t.p = .ok v q) : tX v0 x he hw t = (v, ⟨q, 0, 0, fun _ => ⟨rfl, he _ _ _ (t.ok h).2 hr⟩⟩) := by
  unfold tX
  rw [dif_pos h]
  split
  · rename_i v' q' h'
    have := h'.symm.trans hr
    simp only [Rs.ok.injEq] at this
    obtain ⟨rfl, rfl⟩ := this
    rfl
  · rename_i a w h'
    exact absurd (h'.symm.trans hr) (by simp)
theorem tX_err {v0 : α} {x : Nat → α × Nat} {r : Nat → Rs α} {he : Ends b r} {hw : Errs r} {t : ES b} (h : t.er = 0) {a w : Nat} (hr : r t.p = .err a w) : tX v0 x he hw t = ((x t.p).1, ⟨(x t.p).2, a, w, fun h0 => absurd h0 (hw _ _ _ hr)⟩) := by
  unfold tX
  rw [dif_pos h]
  split
  · rename_i v' q' h'
    exact absurd (h'.symm.trans hr) (by simp)
  · rename_i a' w' h'
    have := h'.symm.trans hr
    simp only [Rs.err.injEq] at this
    obtain ⟨rfl, rfl⟩ := this
    rfl
def Fol {b : List UInt8} (f : ES b → α × ES b) (r : Nat → Rs α) : Prop :=
  ∀ t, (t.er ≠ 0 → (f t).2.er = t.er ∧ (f t).2.pl = t.pl) ∧
    (t.er = 0 → match r t.p with | .ok v q => (f t).1 = v ∧ (f t).2.p = q ∧ (f t).2.er = 0 | .err a w => (f t).2.pl = a ∧ (f t).2.er = w ∧ w ≠ 0)
theorem fol_tX {v0 : α} {x : Nat → α × Nat} {r : Nat → Rs α} {he : Ends b r} {hw : Errs r} : Fol (tX v0 x he hw) r := by
  intro t
  refine ⟨fun h => ?_, fun h => ?_⟩
  · rw [tX_st h]; exact ⟨rfl, rfl⟩
  · cases hr : r t.p with
    | ok v q => rw [tX_ok h hr]; exact ⟨rfl, rfl, rfl⟩
    | err a w => rw [tX_err h hr]; exact ⟨rfl, rfl, hw _ _ _ hr⟩
def tBind (f : ES b → α × ES b) (g : α → ES b → β × ES b) (t : ES b) : β × ES b := g (f t).1 (f t).2
def tPure (v : α) (t : ES b) : α × ES b := (v, t)
def tIf (v0 : α) (f : ES b → α × ES b) (t : ES b) : α × ES b := if t.er = 0 then f t else (v0, t)
theorem u70 {v : α} : Fol (b := b) (tPure v) (rPure v) := fun t => ⟨fun h => ⟨rfl, rfl⟩, fun h => ⟨rfl, rfl, h⟩⟩
theorem u3q {f : ES b → α × ES b} {g : α → ES b → β × ES b} {r : Nat → Rs α} {s : α → Nat → Rs β} (hf : Fol f r) (hg : ∀ v, Fol (g v) (s v)) : Fol (tBind f g) (rBind r s) := by
  intro t
  have h1 := hf t
  have h2 := hg (f t).1 (f t).2
  unfold tBind rBind
  refine ⟨fun he => ?_, fun he => ?_⟩
  · have h3 := h1.1 he
    have h4 := h2.1 (by omega)
    exact ⟨h4.1.trans h3.1, h4.2.trans h3.2⟩
  · have h3 := h1.2 he
    cases hr : r t.p with
    | ok v q =>
      rw [hr] at h3
      dsimp only at h3
      have h4 := h2.2 h3.2.2
      rw [h3.1, h3.2.1] at h4
      rw [h3.1]
      exact h4
    | err a w =>
      rw [hr] at h3
      dsimp only at h3
      have h4 := h2.1 (by omega)
      exact ⟨h4.2.trans h3.1, h4.1.trans h3.2.1, h3.2.2⟩
theorem fol_if {v0 : α} {f : ES b → α × ES b} {r : Nat → Rs α} (hf : Fol f r) : Fol (tIf v0 f) r := by
  intro t
  have h1 := hf t
  unfold tIf
  refine ⟨fun he => ?_, fun he => ?_⟩
  · rw [if_neg he]; exact ⟨rfl, rfl⟩
  · rw [if_pos he]; exact h1.2 he
abbrev outT (z : Bool) {b : List UInt8} (c : Nat) (H : Heap) (L : List Box) (enc : α → PV) (m : M PV) (f : ES b → α × ES b) : Prop :=
  ∀ (p pl er : Nat) (ok : er = 0 → pl = 0 ∧ p ≤ b.length), runK c m (St H c (.cells [BS z b, .int .i64 p, .int .i64 pl, .int .i64 er]) L) = some (.ok (enc (f ⟨p, pl, er, ok⟩).1) (St H c (.cells [BS z b, .int .i64 (f ⟨p, pl, er, ok⟩).2.p, .int .i64 (f ⟨p, pl, er, ok⟩).2.pl, .int .i64 (f ⟨p, pl, er, ok⟩).2.er]) L))
theorem toT {enc : α → PV} {m : M PV} {v0 : α} {x : Nat → α × Nat} {r : Nat → Rs α} (he : Ends b r) (hw : Errs r)
    (h0 : ∀ H p, hget H c = some (rst z b p 0 0) → p ≤ b.length → outX z b c H enc (run m H) (x p) (r p))
    (h1 : ∀ H q a w, hget H c = some (rst z b q a w) → w ≠ 0 → run m H = some (.ok (enc v0) H)) (hc : c < List.length H) : outT z c H L enc m (tX v0 x he hw) := by
  intro p pl er ok
  by_cases h : er = 0
  · subst h
    obtain ⟨rfl, hp⟩ := ok rfl
    have hh := h0 (St H c (rst z b p 0 0) L) p (get_St hc) hp
    unfold runK
    cases hr : r p with
    | ok v q =>
      rw [hr] at hh
      rw [tX_ok (t := ⟨p, 0, 0, ok⟩) rfl hr]
      have hh : run m (St H c (rst z b p 0 0) L) = _ := hh
      show killR c (run m (St H c (rst z b p 0 0) L)) = _
      rw [hh, set_St hc]
      rfl
    | err a w =>
      rw [hr] at hh
      rw [tX_err (t := ⟨p, 0, 0, ok⟩) rfl hr]
      show killR c (run m (St H c (rst z b p 0 0) L)) = _
      rw [hh.1, set_St hc]
      rfl
  · rw [tX_st (t := ⟨p, pl, er, ok⟩) h]
    have hh := h1 (St H c (rst z b p pl er) L) p pl er (get_St hc) h
    show killR c (run m (St H c (rst z b p pl er) L)) = _
    rw [hh]
    rfl
theorem uf9 {m : M PV} {K K' : Heap} {v : PV} (h : runK c m K = some (.ok v K')) : run m K = some (.ok v K') := by
  unfold runK killR at h
  cases hr : run m K with
  | none => rw [hr] at h; cases h
  | some q => cases q with
    | ok a b => rw [hr] at h; exact h
    | pan a b => rw [hr] at h; simp at h
theorem uma {p : Nat} {enc : α → PV} {m : M PV} {f : ES b → α × ES b} {r : Nat → Rs α} (hf : Fol f r) (hp : p ≤ b.length) (hH : hget H c = some (rst z b p 0 0)) (h : ∀ H, c < List.length H → outT z c H [] enc m f) : outF z b c H enc (run m H) (r p) := by
  have hid := get_lt hH
  have h1 := h H hid p 0 0 (fun _ => ⟨rfl, hp⟩)
  have h2 := (hf ⟨p, 0, 0, fun _ => ⟨rfl, hp⟩⟩).2 rfl
  have hS : St H c (rst z b p 0 0) [] = H := (List.append_nil _).trans (u1g hH)
  have h1 : runK c m (St H c (rst z b p 0 0) []) = _ := h1
  rw [hS] at h1
  have h3 := uf9 h1
  generalize f ⟨p, 0, 0, fun _ => ⟨rfl, hp⟩⟩ = o at h2 h3
  obtain ⟨v', p', pl', er', ok'⟩ := o
  dsimp only at h2 h3
  cases hr : r p with
  | ok v q =>
    rw [hr] at h2
    dsimp only at h2
    obtain ⟨rfl, rfl, rfl⟩ := h2
    obtain ⟨rfl, _⟩ := ok' rfl
    refine h3.trans ?_
    exact congrArg (fun K => some (Out.ok (enc v') K)) (List.append_nil _)
  | err a w =>
    rw [hr] at h2
    dsimp only at h2
    obtain ⟨rfl, rfl, h5⟩ := h2
    refine ⟨v', p', h3.trans ?_, h5⟩
    exact congrArg (fun K => some (Out.ok (enc v') K)) (List.append_nil _)
theorem ug9 {H : Heap} {b : List UInt8} {z : Bool} {c p n q B : Nat} (hB : B = 32 ∨ B = 64) (hH : hget H c = some (rst z b p 0 0)) (hb : b.length < 2 ^ 61) (hp : p ≤ b.length) (hr : rdU b B b.length p = .ok n q) :
    run (C u03 [.ptr c 0, .int .i64 B, .bool false]) H = some (.ok (.int .u64 n) (hset H c (rst z b q 0 0))) := by
  have hid := get_lt hH
  have h1 := ubw (H := H) (b := b) (z := z) (a := p) (B := B) (Nat.le_refl _) hb hB hp
  rw [hr] at h1
  have h1 : run (C u09 [BS z b, .int .i64 p, .int .i64 b.length, .int .i64 B, .bool false]) H = some (.ok (.tup [.int .u64 n, .int .i64 q, .int .i64 0]) H) := h1
  unfold rst at hH ⊢
  have hH : hget H c = some (.cells [BS z b, .int .i64 p, .int .i64 0, .int .i64 0]) := hH
  rw [u0p]
  simp +contextual -dsimp (disch := omega) only [↓goDown, goUp, cr, simprocAttr, hH, h1, List.length_map]
theorem ufg {H : Heap} {b : List UInt8} {z : Bool} {c p a w B : Nat} (hB : B = 32 ∨ B = 64) (hH : hget H c = some (rst z b p 0 0)) (hb : b.length < 2 ^ 61) (hp : p ≤ b.length) (hr : rdU b B b.length p = .err a w) :
    run (C u03 [.ptr c 0, .int .i64 B, .bool false]) H = some (.ok (.int .u64 0) (hset H c (rst z b p a w))) := by
  have hid := get_lt hH
  have h1 := ubw (H := H) (b := b) (z := z) (a := p) (B := B) (Nat.le_refl _) hb hB hp
  have h2 := u5n (a := a) (w := w) hH
  have hw := u7i hr
  have c1 : ¬ (w : Int) = 0 := by omega
  rw [hr] at h1
  have h1 : run (C u09 [BS z b, .int .i64 p, .int .i64 b.length, .int .i64 B, .bool false]) H = some (.ok (.tup [.int .u64 0, .int .i64 a, .int .i64 w]) H) := h1
  unfold rst at hH
  have hH : hget H c = some (.cells [BS z b, .int .i64 p, .int .i64 0, .int .i64 0]) := hH
  rw [u0p]
  simp +contextual -dsimp (disch := omega) only [↓goDown, goUp, cr, simprocAttr, hH, h1, h2, c1, List.length_map]
def eNum (p : Nat) : Nat × Nat := (0, p)
def tNum (w : Bool) : ES b → Nat × ES b := tX 0 eNum (ucb (w := w)) ue2
theorem numT {w : Bool} (hb : b.length < 2 ^ 60) (hc : c < List.length H) : outT z c H L (fun n : Nat => .int .u64 n) (C u03 [.ptr c 0, .int .i64 (if w then 64 else 32), .bool false]) (tNum (b := b) w) := by
  refine toT ucb ue2 (fun H p hH hp => ?_) (fun H q a e hH he => ujk hH he) hc
  cases w with
  | true =>
    cases hr : rNum true b p with
    | ok n q => exact ug9 (B := 64) (.inr rfl) hH (by omega) hp hr
    | err a e => exact ⟨ufg (B := 64) (.inr rfl) hH (by omega) hp hr, ue2 _ _ _ hr⟩
  | false =>
    cases hr : rNum false b p with
    | ok n q => exact ug9 (B := 32) (.inl rfl) hH (by omega) hp hr
    | err a e => exact ⟨ufg (B := 32) (.inl rfl) hH (by omega) hp hr, ue2 _ _ _ hr⟩
theorem uu7 {q a w most : Nat} (hH : hget H c = some (rst z b q a w)) (hw : w ≠ 0) : run (C u01 [.ptr c 0, .int .u8 most]) H = some (.ok (.int .u8 (0 : Nat)) H) := by
  have hid := get_lt hH
  have hH' : hget H c = some (.cells [BS z b, .int .i64 q, .int .i64 a, .int .i64 w]) := hH
  have hs' : Pi.hset H c (.cells [BS z b, .int .i64 q, .int .i64 a, .int .i64 w]) = H := u1g hH
  have hk := uq7 hH hw
  have hf := fun x y => ur6 hH hw (x := x) (y := y)
  rw [u48]
  simp +contextual -dsimp (disch := omega) only [↓goDown, goUp, cr, simprocAttr, hH', hs', hk, hf, un_not, List.length_map]
def tSmall (most : Nat) : ES b → Nat × ES b := tX 0 (eSmall b) (u1a (most := most)) ugx
theorem smallT {most : Nat} (hb : b.length < 2 ^ 60) (hc : c < List.length H) : outT z c H L (fun n : Nat => .int .u8 n) (C u01 [.ptr c 0, .int .u8 most]) (tSmall (b := b) most) :=
  toT u1a ugx (fun H p hH hp => uw4 hH (by omega) hp) (fun H q a e hH he => uu7 hH he) hc
theorem val_st {q a w : Nat} {any : Bool} (hH : hget H c = some (rst z b q a w)) (hw : w ≠ 0) : run (C u0h [.ptr c 0, .bool any, .bool false]) H = some (.ok (encV ⟨0, false, 0⟩) H) := by
  have hid := get_lt hH
  have hH1 : ∀ L, hget (hadd H L) c = some (rst z b q a w) := fun L => by rw [u81 hid]; exact hH
  have hH' : ∀ L, hget (hadd H L) c = some (.cells [BS z b, .int .i64 q, .int .i64 a, .int .i64 w]) := hH1
  have hs' : ∀ L, Pi.hset (hadd H L) c (.cells [BS z b, .int .i64 q, .int .i64 a, .int .i64 w]) = hadd H L := fun L => u1g (hH1 L)
  have hk := fun L => uq7 (hH1 L) hw
  have hf := fun L x y => ur6 (hH1 L) hw (x := x) (y := y)
  have hh : hget H c = some (.cells [BS z b, .int .i64 q, .int .i64 a, .int .i64 w]) := hH
  rw [u4l]
  simp +contextual -dsimp (disch := omega) only [↓goDown, goUp, cr, simprocAttr, hh, hH', hs', hk, hf, un_not, List.length_map]
  all_goals rfl
theorem rrefAX {H : Heap} {b : List UInt8} {z : Bool} {c p : Nat} (hH : hget H c = some (rst z b p 0 0)) (hb : b.length < 2 ^ 61) (hp : p ≤ b.length) :
    outX z b c H encV (run (C u0h [.ptr c 0, .bool false, .bool false]) H) (eVal false b p) (rRef b p) := by
  have h := rvalX (any := false) hH hb hp
  by_cases h1 : p < b.length
  · rw [if_pos h1, ← uru h1] at h; exact h
  · rw [if_neg h1] at h
    have e : rRef b p = .err b.length 3 := by unfold rRef; rw [if_neg h1]
    rw [e]; exact h
def tVal : ES b → VT × ES b := tX ⟨0, false, 0⟩ (eVal true b) u90 ume
def tRef : ES b → VT × ES b := tX ⟨0, false, 0⟩ (eVal false b) u93 uni
theorem valT (hb : b.length < 2 ^ 60) (hc : c < List.length H) : outT z c H L encV (C u0h [.ptr c 0, .bool true, .bool false]) (tVal (b := b)) :=
  toT u90 ume (fun H p hH hp => rvalAX hH (by omega) hp) (fun H q a e hH he => val_st hH he) hc
theorem refT (hb : b.length < 2 ^ 60) (hc : c < List.length H) : outT z c H L encV (C u0h [.ptr c 0, .bool false, .bool false]) (tRef (b := b)) :=
  toT u93 uni (fun H p hH hp => rrefAX hH (by omega) hp) (fun H q a e hH he => val_st hH he) hc
theorem uu6 {q a w : Nat} (hH : hget H c = some (rst z b q a w)) (hw : w ≠ 0) : run (C u0k [.ptr c 0]) H = some (.ok (.int .i64 0) H) := by
  have hH' : hget H c = some (.cells [BS z b, .int .i64 q, .int .i64 a, .int .i64 w]) := hH
  have c1 : ((w : Int) = 0) = False := eq_false (by omega)
  have n1 := fun x t => ujk hH hw (x := x) (t := t)
  have e0 : IntKind.i64.wrap 0 = 0 := rfl
  have hs' : Pi.hset H c (.cells [BS z b, .int .i64 q, .int .i64 a, .int .i64 w]) = H := u1g hH
  rw [u40]
  simp +contextual -dsimp (disch := omega) only [↓goDown, goUp, cr, simprocAttr, hH', hs', c1, n1, e0]
def tIndex : ES b → Int × ES b := tX 0 (eIndex b) u38 uga
theorem indexT (hb : b.length < 2 ^ 60) (hc : c < List.length H) : outT z c H L (fun n : Int => .int .i64 n) (C u0k [.ptr c 0]) (tIndex (b := b)) :=
  toT u38 uga (fun H p hH hp => uw6 hH (by omega) hp) (fun H q a e hH he => uu6 hH he) hc
theorem uws {q a w : Nat} (hH : hget H c = some (rst z b q a w)) (hw : w ≠ 0) : run (C u06 [.ptr c 0]) H = some (.ok (.str ⟨#[]⟩) H) := by
  have hH' : hget H c = some (.cells [BS z b, .int .i64 q, .int .i64 a, .int .i64 w]) := hH
  have c1 : ((w : Int) = 0) = False := eq_false (by omega)
  rw [u4d]
  simp +contextual -dsimp (disch := omega) only [↓goDown, goUp, cr, simprocAttr, hH', c1]
def eNm (p : Nat) : List UInt8 × Nat := ([], p)
theorem nameX {H : Heap} {b : List UInt8} {z : Bool} {c p : Nat} (hH : hget H c = some (rst z b p 0 0)) (hb : b.length < 2 ^ 60) (hp : p ≤ b.length) :
    outX z b c H (fun u : List UInt8 => .str ⟨u.toArray⟩) (run (C u06 [.ptr c 0]) H) (eNm p) (rNm b p) := by
  have hid := get_lt hH
  have hH' : hget H c = some (.cells [BS z b, .int .i64 p, .int .i64 0, .int .i64 0]) := hH
  have h1 := uut (H := H) (z := z) hb (at_ := (p : Int))
  unfold nameP at h1
  rw [if_neg (by omega), Int.toNat_natCast] at h1
  rw [u4d]
  unfold rNm
  cases hr : rName b b.length p with
  | ok v q =>
    rw [hr] at h1
    simp only [tupN, SB] at h1
    show _ = some _
    simp +contextual -dsimp (disch := omega) only [↓goDown, goUp, cr, simprocAttr, hH', h1]
    all_goals rfl
  | err a w =>
    have hw := ubx hr
    have c1 : ((w : Int) = 0) = False := eq_false (by omega)
    have h2 := u5n (a := a) (w := w) hH
    rw [hr] at h1
    simp only [tupN] at h1
    refine ⟨?_, hw⟩
    simp +contextual -dsimp (disch := omega) only [↓goDown, goUp, cr, simprocAttr, hH', h1, h2, c1]
    all_goals rfl
def tNm : ES b → List UInt8 × ES b := tX [] eNm u50 usx
theorem nmT (hb : b.length < 2 ^ 60) (hc : c < List.length H) : outT z c H L (fun u : List UInt8 => .str ⟨u.toArray⟩) (C u06 [.ptr c 0]) (tNm (b := b)) :=
  toT u50 usx (fun H p hH hp => nameX hH hb hp) (fun H q a e hH he => uws hH he) hc
end Go.Proofs.YthnmienjiangkaaGreatDoor.Pi.Q
namespace Go.Proofs.YthnmienjiangkaaGreatDoor.Pi.Q
open Go Go.Proofs.YthnmienjiangkaaGreatDoor.Pi
attribute [local congr] ite_congr
abbrev zXT : XT := ⟨0, 0, zTB, zLT, zGO⟩
abbrev zIM : IM := ⟨⟨#[]⟩, ⟨#[]⟩, zXT⟩
abbrev zEX : EX := ⟨⟨#[]⟩, 0, 0⟩
theorem ulo {b : List UInt8} {z : Bool} (hb : b.length < 2 ^ 61) {one : PV} {r : Nat → Rs LT}
    (hone : ∀ H c p, hget H c = some (curB z b p) → p ≤ b.length → ∃ X, run (callV P C (strip one) [.ptr c 0]) H = outB z b c H X encLT (r p)) {H : Heap} {at_ : Int} :
    run (C u2o [BS z b, .int .i64 at_, one]) H = some (.ok (atPl at_ b (encLT zLT) (outR encLT (encLT zLT) (r at_.toNat))) H) := by
  rw [u8o]
  unfold atPl
  by_cases h1 : at_ < 0
  · rw [if_pos (.inl h1)]
    simp +contextual -dsimp (disch := omega) only [↓goDown, goUp, cr, simprocAttr, eq_true h1, encLT]
  · by_cases h2 : (b.length : Int) < at_
    · rw [if_pos (.inr h2)]
      simp +contextual -dsimp (disch := omega) only [↓goDown, goUp, cr, simprocAttr, h1, h2, List.length_map, encLT]
    · rw [if_neg (by omega)]
      obtain ⟨p, rfl⟩ := Int.eq_ofNat_of_zero_le (show 0 ≤ at_ by omega)
      rw [Int.toNat_natCast]
      obtain ⟨X, hk⟩ := hone (hadd H [.cells [.bool false, .int .u64 0, .int .u64 0, .bool false], .cells [.int .i64 0], .cells [.int .i64 0], .cells [.bool false, .int .u64 0, .int .u64 0, .bool false], curB z b p]) (H.length + 4) p (by rw [u2k]; rfl) (by omega)
      cases hr : r p <;> rw [hr] at hk <;> simp only [outB, outR, u67] at hk ⊢ <;> unfold curB at hk <;>
        simp +contextual -dsimp (disch := omega) only [↓goDown, goUp, cr, simprocAttr, h1, h2, List.length_map, run_mf, hk, flt, u7f, u7k, run_ta, bi_if, bi_ifn, cutL, u9j, Nat.reduceBeqDiff, encLT]
theorem upd {H : Heap} {b : List UInt8} {z : Bool} (hb : b.length < 2 ^ 60) {at_ : Int} :
    run (C u88 [BS z b, .int .i64 at_]) H = some (.ok (atPl at_ b (encLT zLT) (outR encLT (encLT zLT) (u68 b at_.toNat))) H) := by
  have h := fun L => ulo (z := z) (show b.length < 2 ^ 61 by omega) (one := .fn u0u [] []) (r := u68 b) (fun H c p hH hp => uck u1x hp hH fun H hc => limCK hb hc) (H := hadd H L) (at_ := at_)
  rw [ued]
  revert h
  refine u6a (fun t => (∀ L, run (C u2o [BS z b, .int .i64 at_, .fn u0u [] []]) (hadd H L) = some (.ok t (hadd H L))) → _ = some (Out.ok t H)) ?_ ?_ ?_ <;> intros <;> rename_i h <;> unfold encLT at h ⊢ <;> 
    (have h0 := h []; rw [show hadd H [] = H from List.append_nil H] at h0; simp +contextual -dsimp (disch := omega) only [↓goDown, goUp, cr, simprocAttr, h, h0])
theorem ull {b : List UInt8} {z : Bool} (hb : b.length < 2 ^ 61) {one : PV} {r : Nat → Rs TB}
    (hone : ∀ H c p, hget H c = some (curB z b p) → p ≤ b.length → ∃ X, run (callV P C (strip one) [.ptr c 0]) H = outB z b c H X encTB (r p)) {H : Heap} {at_ : Int} :
    run (C u25 [BS z b, .int .i64 at_, one]) H = some (.ok (atPl at_ b (encTB zTB) (outR encTB (encTB zTB) (r at_.toNat))) H) := by
  rw [u7d]
  unfold atPl
  by_cases h1 : at_ < 0
  · rw [if_pos (.inl h1)]
    simp +contextual -dsimp (disch := omega) only [↓goDown, goUp, cr, simprocAttr, eq_true h1, encTB]
  · by_cases h2 : (b.length : Int) < at_
    · rw [if_pos (.inr h2)]
      simp +contextual -dsimp (disch := omega) only [↓goDown, goUp, cr, simprocAttr, h1, h2, List.length_map, encTB]
    · rw [if_neg (by omega)]
      obtain ⟨p, rfl⟩ := Int.eq_ofNat_of_zero_le (show 0 ≤ at_ by omega)
      rw [Int.toNat_natCast]
      obtain ⟨X, hk⟩ := hone (hadd H [.cells [.int .i64 0, .bool false, .int .i64 0, .bool false, .int .u64 0, .int .u64 0, .bool false], .cells [.int .i64 0], .cells [.int .i64 0], .cells [.int .i64 0, .bool false, .int .i64 0, .bool false, .int .u64 0, .int .u64 0, .bool false], curB z b p]) (H.length + 4) p (by rw [u2k]; rfl) (by omega)
      cases hr : r p <;> rw [hr] at hk <;> simp only [outB, outR, u67] at hk ⊢ <;> unfold curB at hk <;>
        simp +contextual -dsimp (disch := omega) only [↓goDown, goUp, cr, simprocAttr, h1, h2, List.length_map, run_mf, hk, flt, u6k, u6l, run_ta, bi_if, bi_ifn, cutL, u9j, Nat.reduceBeqDiff, encTB]
theorem uhl {H : Heap} {b : List UInt8} {z : Bool} (hb : b.length < 2 ^ 60) {at_ : Int} :
    run (C u63 [BS z b, .int .i64 at_]) H = some (.ok (atPl at_ b (encTB zTB) (outR encTB (encTB zTB) (rTable b at_.toNat))) H) := by
  have h := fun L => ull (z := z) (show b.length < 2 ^ 61 by omega) (one := .fn u22 [] []) (r := rTable b) (fun H c p hH hp => uck u4s hp hH fun H hc => utj hb hc) (H := hadd H L) (at_ := at_)
  rw [ubv]
  revert h
  refine u6a (fun t => (∀ L, run (C u25 [BS z b, .int .i64 at_, .fn u22 [] []]) (hadd H L) = some (.ok t (hadd H L))) → _ = some (Out.ok t H)) ?_ ?_ ?_ <;> intros <;> rename_i h <;> unfold encTB at h ⊢ <;> 
    (have h0 := h []; rw [show hadd H [] = H from List.append_nil H] at h0; simp +contextual -dsimp (disch := omega) only [↓goDown, goUp, cr, simprocAttr, h, h0])
theorem ulv {b : List UInt8} {z : Bool} (hb : b.length < 2 ^ 61) {one : PV} {r : Nat → Rs GO}
    (hone : ∀ H c p, hget H c = some (curB z b p) → p ≤ b.length → ∃ X, run (callV P C (strip one) [.ptr c 0]) H = outB z b c H X encGO (r p)) {H : Heap} {at_ : Int} :
    run (C u20 [BS z b, .int .i64 at_, one]) H = some (.ok (atPl at_ b (encGO zGO) (outR encGO (encGO zGO) (r at_.toNat))) H) := by
  rw [u75]
  unfold atPl
  by_cases h1 : at_ < 0
  · rw [if_pos (.inl h1)]
    simp +contextual -dsimp (disch := omega) only [↓goDown, goUp, cr, simprocAttr, eq_true h1, encGO]
  · by_cases h2 : (b.length : Int) < at_
    · rw [if_pos (.inr h2)]
      simp +contextual -dsimp (disch := omega) only [↓goDown, goUp, cr, simprocAttr, h1, h2, List.length_map, encGO]
    · rw [if_neg (by omega)]
      obtain ⟨p, rfl⟩ := Int.eq_ofNat_of_zero_le (show 0 ≤ at_ by omega)
      rw [Int.toNat_natCast]
      obtain ⟨X, hk⟩ := hone (hadd H [.cells [.int .i64 0, .bool false, .int .i64 0, .bool false], .cells [.int .i64 0], .cells [.int .i64 0], .cells [.int .i64 0, .bool false, .int .i64 0, .bool false], curB z b p]) (H.length + 4) p (by rw [u2k]; rfl) (by omega)
      cases hr : r p <;> rw [hr] at hk <;> simp only [outB, outR, u67] at hk ⊢ <;> unfold curB at hk <;>
        simp +contextual -dsimp (disch := omega) only [↓goDown, goUp, cr, simprocAttr, h1, h2, List.length_map, run_mf, hk, flt, u6b, u66, run_ta, bi_if, bi_ifn, cutL, u9j, Nat.reduceBeqDiff, encGO]
theorem ug5 {H : Heap} {b : List UInt8} {z : Bool} (hb : b.length < 2 ^ 60) {at_ : Int} :
    run (C u5s [BS z b, .int .i64 at_]) H = some (.ok (atPl at_ b (encGO zGO) (outR encGO (encGO zGO) (u9d b at_.toNat))) H) := by
  have h := fun L => ulv (z := z) (show b.length < 2 ^ 61 by omega) (one := .fn u1v [] []) (r := u9d b) (fun H c p hH hp => uck u2z hp hH fun H hc => umn hb hc) (H := hadd H L) (at_ := at_)
  rw [ubf]
  revert h
  refine u6a (fun t => (∀ L, run (C u20 [BS z b, .int .i64 at_, .fn u1v [] []]) (hadd H L) = some (.ok t (hadd H L))) → _ = some (Out.ok t H)) ?_ ?_ ?_ <;> intros <;> rename_i h <;> unfold encGO at h ⊢ <;> 
    (have h0 := h []; rw [show hadd H [] = H from List.append_nil H] at h0; simp +contextual -dsimp (disch := omega) only [↓goDown, goUp, cr, simprocAttr, h, h0])
theorem uln {b : List UInt8} {z : Bool} (hb : b.length < 2 ^ 61) {one : PV} {r : Nat → Rs Int}
    (hone : ∀ H c p, hget H c = some (curB z b p) → p ≤ b.length → ∃ X, run (callV P C (strip one) [.ptr c 0]) H = outB z b c H X (fun x : Int => .int .i64 x) (r p)) {H : Heap} {at_ : Int} :
    run (C u58 [BS z b, .int .i64 at_, one]) H = some (.ok (atPl at_ b (.int .i64 0) (outR (fun x : Int => .int .i64 x) (.int .i64 0) (r at_.toNat))) H) := by
  rw [ucl]
  unfold atPl
  by_cases h1 : at_ < 0
  · rw [if_pos (.inl h1)]
    simp +contextual -dsimp (disch := omega) only [↓goDown, goUp, cr, simprocAttr, eq_true h1]
  · by_cases h2 : (b.length : Int) < at_
    · rw [if_pos (.inr h2)]
      simp +contextual -dsimp (disch := omega) only [↓goDown, goUp, cr, simprocAttr, h1, h2, List.length_map]
    · rw [if_neg (by omega)]
      obtain ⟨p, rfl⟩ := Int.eq_ofNat_of_zero_le (show 0 ≤ at_ by omega)
      rw [Int.toNat_natCast]
      obtain ⟨X, hk⟩ := hone (hadd H [.cells [.int .i64 0], .cells [.int .i64 0], .cells [.int .i64 0], .cells [.int .i64 0], curB z b p]) (H.length + 4) p (by rw [u2k]; rfl) (by omega)
      cases hr : r p <;> rw [hr] at hk <;> simp only [outB, outR, u67] at hk ⊢ <;> unfold curB at hk <;>
        simp +contextual -dsimp (disch := omega) only [↓goDown, goUp, cr, simprocAttr, h1, h2, List.length_map, run_mf, hk, flt, uaq, uat, run_ta, bi_if, bi_ifn, cutL, u9j, Nat.reduceBeqDiff]
theorem uwc {H : Heap} {b : List UInt8} {z : Bool} (hb : b.length < 2 ^ 60) {at_ : Int} :
    run (C ubp [BS z b, .int .i64 at_]) H = some (.ok (atPl at_ b (.int .i64 0) (outR (fun x : Int => .int .i64 x) (.int .i64 0) (rTag b at_.toNat))) H) := by
  have h := fun L => uln (z := z) (show b.length < 2 ^ 61 by omega) (one := .fn u2d [] []) (r := rTag b) (fun H c p hH hp => uck u55 hp hH fun H hc => tagCK hb hc) (H := hadd H L) (at_ := at_)
  rw [ujd]
  revert h
  refine u6a (fun t => (∀ L, run (C u58 [BS z b, .int .i64 at_, .fn u2d [] []]) (hadd H L) = some (.ok t (hadd H L))) → _ = some (Out.ok t H)) ?_ ?_ ?_ <;> intros <;> rename_i h <;> 
    (have h0 := h []; rw [show hadd H [] = H from List.append_nil H] at h0; simp +contextual -dsimp (disch := omega) only [↓goDown, goUp, cr, simprocAttr, h, h0])
theorem up6 {b : List UInt8} {z : Bool} (hb : b.length < 2 ^ 61) {one : PV} {r : Nat → Rs IM}
    (hone : ∀ H c p, hget H c = some (curB z b p) → p ≤ b.length → ∃ X, run (callV P C (strip one) [.ptr c 0]) H = outB z b c H X encIM (r p)) {H : Heap} {at_ : Int} :
    run (C u2v [BS z b, .int .i64 at_, one]) H = some (.ok (atPl at_ b (encIM zIM) (outR encIM (encIM zIM) (r at_.toNat))) H) := by
  rw [u8r]
  unfold atPl
  by_cases h1 : at_ < 0
  · rw [if_pos (.inl h1)]
    simp +contextual -dsimp (disch := omega) only [↓goDown, goUp, cr, simprocAttr, eq_true h1, encIM]
  · by_cases h2 : (b.length : Int) < at_
    · rw [if_pos (.inr h2)]
      simp +contextual -dsimp (disch := omega) only [↓goDown, goUp, cr, simprocAttr, h1, h2, List.length_map, encIM]
    · rw [if_neg (by omega)]
      obtain ⟨p, rfl⟩ := Int.eq_ofNat_of_zero_le (show 0 ≤ at_ by omega)
      rw [Int.toNat_natCast]
      obtain ⟨X, hk⟩ := hone (hadd H [.cells [.str ⟨#[]⟩, .str ⟨#[]⟩, .int .i64 0, .int .i64 0, .int .i64 0, .bool false, .int .i64 0, .bool false, .int .u64 0, .int .u64 0, .bool false, .bool false, .int .u64 0, .int .u64 0, .bool false, .int .i64 0, .bool false, .int .i64 0, .bool false], .cells [.int .i64 0], .cells [.int .i64 0], .cells [.str ⟨#[]⟩, .str ⟨#[]⟩, .int .i64 0, .int .i64 0, .int .i64 0, .bool false, .int .i64 0, .bool false, .int .u64 0, .int .u64 0, .bool false, .bool false, .int .u64 0, .int .u64 0, .bool false, .int .i64 0, .bool false, .int .i64 0, .bool false], curB z b p]) (H.length + 4) p (by rw [u2k]; rfl) (by omega)
      cases hr : r p <;> rw [hr] at hk <;> simp only [outB, outR, u67] at hk ⊢ <;> unfold curB at hk <;>
        simp +contextual -dsimp (disch := omega) only [↓goDown, goUp, cr, simprocAttr, h1, h2, List.length_map, run_mf, hk, flt, u7o, u7q, run_ta, bi_if, bi_ifn, cutL, u9j, Nat.reduceBeqDiff, encIM]
theorem upp {H : Heap} {b : List UInt8} {z : Bool} (hb : b.length < 2 ^ 60) {at_ : Int} :
    run (C u83 [BS z b, .int .i64 at_]) H = some (.ok (atPl at_ b (encIM zIM) (outR encIM (encIM zIM) (u9u b at_.toNat))) H) := by
  have h := fun L => up6 (z := z) (show b.length < 2 ^ 61 by omega) (one := .fn u1l [] []) (r := u9u b) (fun H c p hH hp => uck ub8 hp hH fun H hc => uub hb hc) (H := hadd H L) (at_ := at_)
  rw [ufk]
  revert h
  refine u6a (fun t => (∀ L, run (C u2v [BS z b, .int .i64 at_, .fn u1l [] []]) (hadd H L) = some (.ok t (hadd H L))) → _ = some (Out.ok t H)) ?_ ?_ ?_ <;> intros <;> rename_i h <;> unfold encIM at h ⊢ <;> 
    (have h0 := h []; rw [show hadd H [] = H from List.append_nil H] at h0; simp +contextual -dsimp (disch := omega) only [↓goDown, goUp, cr, simprocAttr, h, h0])
theorem upt {b : List UInt8} {z : Bool} (hb : b.length < 2 ^ 61) {one : PV} {r : Nat → Rs EX}
    (hone : ∀ H c p, hget H c = some (curB z b p) → p ≤ b.length → ∃ X, run (callV P C (strip one) [.ptr c 0]) H = outB z b c H X encEX (r p)) {H : Heap} {at_ : Int} :
    run (C u2s [BS z b, .int .i64 at_, one]) H = some (.ok (atPl at_ b (encEX zEX) (outR encEX (encEX zEX) (r at_.toNat))) H) := by
  rw [u8l]
  unfold atPl
  by_cases h1 : at_ < 0
  · rw [if_pos (.inl h1)]
    simp +contextual -dsimp (disch := omega) only [↓goDown, goUp, cr, simprocAttr, eq_true h1, encEX]
  · by_cases h2 : (b.length : Int) < at_
    · rw [if_pos (.inr h2)]
      simp +contextual -dsimp (disch := omega) only [↓goDown, goUp, cr, simprocAttr, h1, h2, List.length_map, encEX]
    · rw [if_neg (by omega)]
      obtain ⟨p, rfl⟩ := Int.eq_ofNat_of_zero_le (show 0 ≤ at_ by omega)
      rw [Int.toNat_natCast]
      obtain ⟨X, hk⟩ := hone (hadd H [.cells [.str ⟨#[]⟩, .int .i64 0, .int .u32 0], .cells [.int .i64 0], .cells [.int .i64 0], .cells [.str ⟨#[]⟩, .int .i64 0, .int .u32 0], curB z b p]) (H.length + 4) p (by rw [u2k]; rfl) (by omega)
      cases hr : r p <;> rw [hr] at hk <;> simp only [outB, outR, u67] at hk ⊢ <;> unfold curB at hk <;>
        simp +contextual -dsimp (disch := omega) only [↓goDown, goUp, cr, simprocAttr, h1, h2, List.length_map, run_mf, hk, flt, u78, u7c, run_ta, bi_if, bi_ifn, cutL, u9j, Nat.reduceBeqDiff, encEX]
theorem up0 {H : Heap} {b : List UInt8} {z : Bool} (hb : b.length < 2 ^ 60) {at_ : Int} :
    run (C u84 [BS z b, .int .i64 at_]) H = some (.ok (atPl at_ b (encEX zEX) (outR encEX (encEX zEX) (u9s b at_.toNat))) H) := by
  have h := fun L => upt (z := z) (show b.length < 2 ^ 61 by omega) (one := .fn u1z [] []) (r := u9s b) (fun H c p hH hp => uck ubi hp hH fun H hc => uu2 hb hc) (H := hadd H L) (at_ := at_)
  rw [ue3]
  revert h
  refine u6a (fun t => (∀ L, run (C u2s [BS z b, .int .i64 at_, .fn u1z [] []]) (hadd H L) = some (.ok t (hadd H L))) → _ = some (Out.ok t H)) ?_ ?_ ?_ <;> intros <;> rename_i h <;> unfold encEX at h ⊢ <;> 
    (have h0 := h []; rw [show hadd H [] = H from List.append_nil H] at h0; simp +contextual -dsimp (disch := omega) only [↓goDown, goUp, cr, simprocAttr, h, h0])
end Go.Proofs.YthnmienjiangkaaGreatDoor.Pi.Q
namespace Go.Proofs.YthnmienjiangkaaGreatDoor.Pi.Q
open Go Go.Proofs.YthnmienjiangkaaGreatDoor.Pi
attribute [local congr] ite_congr
variable {c : Nat} {H : Heap} {L : List Box} {b : List UInt8} {z : Bool} {α β : Type}
theorem ul6 {v : VT} : encV v = .agg [.int .i64 v.num, .bool v.nul, .int .i64 v.heap] := nrfl rfl
theorem um9 {n : Nat} : ((n : Int) == 1) = (n == 1) := by rw [Bool.eq_iff_iff]; simp; omega
theorem low_LT {v : LT} {n : Nat} : (encLT v).low n = true := nrfl rfl
theorem liftO {enc : α → PV} {m : M PV} {f : ES b → α × ES b} (h : ∀ H, c < List.length H → outT z c H [] enc m f) (hc : c < List.length H) : outT z c H L enc m f := by
  intro p pl er ok
  rw [ug0 hc, ug0 (x := .cells [BS z b, .int .i64 (f ⟨p, pl, er, ok⟩).2.p, .int .i64 (f ⟨p, pl, er, ok⟩).2.pl, .int .i64 (f ⟨p, pl, er, ok⟩).2.er]) hc]
  exact h _ (by rw [u6u]; omega) p pl er ok
def tLim2 (w h : Bool) (t : ES b) : LT × ES b :=
  if h then (⟨w, (tNum w t).1, (tNum w (tNum w t).2).1, true⟩, (tNum w (tNum w t).2).2) else (⟨w, (tNum w t).1, 0, false⟩, (tNum w t).2)
abbrev z4 : Box := .cells [.bool false, .int .u64 0, .int .u64 0, .bool false]
theorem lim2T {w h : Bool} (hb : b.length < 2 ^ 60) (hc : c < List.length H) {p pl er : Nat} {ok : er = 0 → pl = 0 ∧ p ≤ b.length} {bits : Int} (hbits : bits = if w then 64 else 32) :
    runK c (u17 (.ptr c 0) (.ptr (List.length H) 0) (.ptr (List.length H + 1) 0) (.int .i64 bits)) (St H c (.cells [BS z b, .int .i64 p, .int .i64 pl, .int .i64 er]) [.cells [.bool false, .int .u64 0, .int .u64 0, .bool false], .cells [.bool w, .int .u64 0, .int .u64 0, .bool h]]) =
      some (.ok (encLT (tLim2 w h ⟨p, pl, er, ok⟩).1) (St H c (.cells [BS z b, .int .i64 (tLim2 w h ⟨p, pl, er, ok⟩).2.p, .int .i64 (tLim2 w h ⟨p, pl, er, ok⟩).2.pl, .int .i64 (tLim2 w h ⟨p, pl, er, ok⟩).2.er]) [.cells (cs_LT (tLim2 w h ⟨p, pl, er, ok⟩).1), .cells (cs_LT (tLim2 w h ⟨p, pl, er, ok⟩).1)])) := by
  have h1 := fun L => numT (w := w) (L := L) (z := z) hb hc p pl er ok
  rw [← hbits] at h1
  rw [u4f]
  unfold tLim2
  generalize tNum w ⟨p, pl, er, ok⟩ = o at h1 ⊢
  obtain ⟨n, p1, pl1, er1, ok1⟩ := o
  dsimp only at h1 ⊢
  cases h with
  | false =>
    simp only [Bool.false_eq_true, if_false]
    simp +contextual -dsimp (disch := omega) only [↓kDown, kUp, ↓goDown, goUp, cr, simprocAttr, h1, u23, u26, cs_LT]
    all_goals rfl
  | true =>
    have h2 := fun L => numT (w := w) (L := L) (z := z) hb hc p1 pl1 er1 ok1
    rw [← hbits] at h2
    generalize tNum w ⟨p1, pl1, er1, ok1⟩ = o at h2 ⊢
    obtain ⟨n2, p2, pl2, er2, ok2⟩ := o
    dsimp only at h2 ⊢
    simp only [if_true]
    simp +contextual -dsimp (disch := omega) only [↓kDown, kUp, ↓goDown, goUp, cr, simprocAttr, h1, h2, u23, u26, cs_LT]
    all_goals rfl
theorem lim1T {x : Nat} (hb : b.length < 2 ^ 60) (hc : c < List.length H) {p pl er : Nat} {ok : er = 0 → pl = 0 ∧ p ≤ b.length} :
    runK c (u1d (.ptr c 0) (.ptr (List.length H) 0) (.int .u8 x)) (St H c (.cells [BS z b, .int .i64 p, .int .i64 pl, .int .i64 er]) [.cells [.bool false, .int .u64 0, .int .u64 0, .bool false]]) =
      some (.ok (encLT (tLim2 (decide (4 ≤ x)) (x % 2 == 1) ⟨p, pl, er, ok⟩).1) (St H c (.cells [BS z b, .int .i64 (tLim2 (decide (4 ≤ x)) (x % 2 == 1) ⟨p, pl, er, ok⟩).2.p, .int .i64 (tLim2 (decide (4 ≤ x)) (x % 2 == 1) ⟨p, pl, er, ok⟩).2.pl, .int .i64 (tLim2 (decide (4 ≤ x)) (x % 2 == 1) ⟨p, pl, er, ok⟩).2.er]) [.cells (cs_LT (tLim2 (decide (4 ≤ x)) (x % 2 == 1) ⟨p, pl, er, ok⟩).1), .cells (cs_LT (tLim2 (decide (4 ≤ x)) (x % 2 == 1) ⟨p, pl, er, ok⟩).1)])) := by
  have e4 : ((4 : Int) ≤ (x : Int)) = (4 ≤ x) := by rw [eq_iff_iff]; omega
  have e2 : (x : Int).tmod 2 = ((x % 2 : Nat) : Int) := rfl
  have e1 : (((x % 2 : Nat) : Int) == 1) = (x % 2 == 1) := um9
  have e1' : (((x % 2 : Nat) : Int) = 1) = (x % 2 = 1) := by rw [eq_iff_iff]; omega
  rw [u52]
  by_cases h4 : 4 ≤ x
  · have h1 := fun h => lim2T (w := true) (h := h) (z := z) hb hc (p := p) (pl := pl) (er := er) (ok := ok) (bits := 64) rfl
    have h1' := h1 (x % 2 == 1)
    have d4 : decide (4 ≤ x) = true := decide_eq_true h4
    rw [d4]
    generalize tLim2 true (x % 2 == 1) ⟨p, pl, er, ok⟩ = o at h1' ⊢
    simp +contextual -dsimp (disch := omega) only [↓kDown, kUp, ↓goDown, goUp, cr, simprocAttr, e4, eq_true h4, e2, e1, e1', h1']
  · have h1 := fun h => lim2T (w := false) (h := h) (z := z) hb hc (p := p) (pl := pl) (er := er) (ok := ok) (bits := 32) rfl
    have h1' := h1 (x % 2 == 1)
    have d4 : decide (4 ≤ x) = false := decide_eq_false h4
    rw [d4]
    generalize tLim2 false (x % 2 == 1) ⟨p, pl, er, ok⟩ = o at h1' ⊢
    simp +contextual -dsimp (disch := omega) only [↓kDown, kUp, ↓goDown, goUp, cr, simprocAttr, e4, eq_false h4, e2, e1, e1', h1']
def tFl (on : Bool) (a : Nat) (t : ES b) : ES b := if on = true ∧ t.er = 0 then ⟨t.p, a, 4, fun h => by omega⟩ else t
def u87 (t : ES b) : LT × ES b := tLim2 (decide (4 ≤ (tSmall 5 t).1)) ((tSmall 5 t).1 % 2 == 1) (tFl (decide (1 < (tSmall 5 t).1 ∧ (tSmall 5 t).1 < 4)) t.p (tSmall 5 t).2)
theorem ulk (hb : b.length < 2 ^ 60) (hc : c < List.length H) : outT z c H L encLT (C u0e [.ptr c 0]) (u87 (b := b)) := liftO (fun H hc p pl er ok => by
  have h1 : ∀ L, runK c (C u01 [.ptr c 0, .int .u8 5]) (St H c (.cells [BS z b, .int .i64 p, .int .i64 pl, .int .i64 er]) L) = _ := fun L => smallT (most := 5) (L := L) (z := z) hb hc p pl er ok
  rw [u6f]
  unfold u87
  generalize tSmall 5 ⟨p, pl, er, ok⟩ = o at h1 ⊢
  obtain ⟨x, p1, pl1, er1, ok1⟩ := o
  dsimp only at h1 ⊢
  have e1 : ((1 : Int) < (x : Int)) = (1 < x) := by rw [eq_iff_iff]; omega
  have e2 : ((x : Int) < 4) = (x < 4) := by rw [eq_iff_iff]; omega
  have e0 : ((er1 : Int) = 0) = (er1 = 0) := by rw [eq_iff_iff]; omega
  by_cases hh : er1 = 0 ∧ 1 < x ∧ x < 4
  · obtain ⟨rfl, g1, g2⟩ := hh
    obtain ⟨rfl, hp1⟩ := ok1 rfl
    have d : decide (1 < x ∧ x < 4) = true := decide_eq_true ⟨g1, g2⟩
    have ef : tFl true p (⟨p1, 0, 0, ok1⟩ : ES b) = ⟨p1, p, 4, fun h => by omega⟩ := by unfold tFl; rw [if_pos ⟨rfl, rfl⟩]
    rw [d, ef]
    have hf : ∀ L, run (C u00 [.ptr c 0, .int .i64 p, .int .i64 4]) (St H c (.cells [BS z b, .int .i64 p1, .int .i64 0, .int .i64 0]) L) = some (.ok (.tup []) (St H c (.cells [BS z b, .int .i64 p1, .int .i64 p, .int .i64 4]) L)) := fun L => by
      have := u5n (H := St H c (rst z b p1 0 0) L) (a := p) (w := 4) (get_St hc)
      rw [set_St hc] at this
      exact this
    have hk := lim1T (H := H) (c := c) (z := z) (x := x) (p := p1) (pl := p) (er := 4) (ok := fun h => by omega) hb hc
    generalize tLim2 (decide (4 ≤ x)) (x % 2 == 1) ⟨p1, p, 4, _⟩ = o at hk ⊢
    have e00 : ((0 : Nat) : Int) = 0 := rfl
    have e44 : ((4 : Nat) : Int) = 4 := rfl
    rw [e00] at h1
    rw [e44] at hk
    simp +contextual -dsimp (disch := omega) only [↓kDown, kUp, ↓goDown, goUp, cr, simprocAttr, h1, e1, e2, eq_true g1, eq_true g2, toK (m := C u00 [.ptr c 0, .int .i64 p, .int .i64 4]), hf, hk, low_LT, if_true]
  · have ef : tFl (decide (1 < x ∧ x < 4)) p (⟨p1, pl1, er1, ok1⟩ : ES b) = ⟨p1, pl1, er1, ok1⟩ := by
      unfold tFl
      rw [if_neg]
      rintro ⟨g, g'⟩
      exact hh ⟨g', of_decide_eq_true g⟩
    rw [ef]
    have hk := lim1T (H := H) (c := c) (z := z) (x := x) (p := p1) (pl := pl1) (er := er1) (ok := ok1) hb hc
    generalize tLim2 (decide (4 ≤ x)) (x % 2 == 1) ⟨p1, pl1, er1, ok1⟩ = o at hk ⊢
    by_cases g0 : er1 = 0
    · by_cases g1 : 1 < x
      · have g2 : ¬ x < 4 := fun h => hh ⟨g0, g1, h⟩
        simp +contextual -dsimp (disch := omega) only [↓kDown, kUp, ↓goDown, goUp, cr, simprocAttr, h1, e0, eq_true g0, e1, e2, eq_true g1, eq_false g2, hk, low_LT, if_true]
      · simp +contextual -dsimp (disch := omega) only [↓kDown, kUp, ↓goDown, goUp, cr, simprocAttr, h1, e0, eq_true g0, e1, e2, eq_false g1, hk, low_LT, if_true]
    · simp +contextual -dsimp (disch := omega) only [↓kDown, kUp, ↓goDown, goUp, cr, simprocAttr, h1, e0, eq_false g0, e1, e2, hk, low_LT, if_true]) hc
theorem us4 (hb : b.length < 2 ^ 60) (hc : c < List.length H) : outT z c H L encLT (C u18 [.ptr c 0]) (tIf zLT (u87 (b := b))) := liftO (fun H hc p pl er ok => by
  have h1 := fun L => ulk (L := L) (z := z) hb hc p pl er ok
  rw [u60]
  unfold tIf
  generalize u87 ⟨p, pl, er, ok⟩ = o at h1 ⊢
  have e0 : ((er : Int) = 0) = (er = 0) := by rw [eq_iff_iff]; omega
  by_cases g0 : er = 0
  · simp only [if_pos g0]
    simp +contextual -dsimp (disch := omega) only [↓kDown, kUp, ↓goDown, goUp, cr, simprocAttr, h1, e0, eq_true g0, u26]
    all_goals rfl
  · simp only [if_neg g0]
    simp +contextual -dsimp (disch := omega) only [↓kDown, kUp, ↓goDown, goUp, cr, simprocAttr, h1, e0, eq_false g0, u26]
    all_goals rfl) hc
def tTable : ES b → TB × ES b := tBind tRef fun v => tBind (tIf zLT u87) fun l => tPure ⟨v, l⟩
theorem tableT (hb : b.length < 2 ^ 60) (hc : c < List.length H) : outT z c H L encTB (C u1e [.ptr c 0]) (tTable (b := b)) := liftO (fun H hc p pl er ok => by
  have h1 := fun L => refT (L := L) (z := z) hb hc p pl er ok
  rw [u6p]
  unfold tTable tBind tPure
  generalize tRef ⟨p, pl, er, ok⟩ = o at h1 ⊢
  obtain ⟨v, p1, pl1, er1, ok1⟩ := o
  dsimp only at h1 ⊢
  have h2 := fun L => us4 (L := L) (z := z) hb hc p1 pl1 er1 ok1
  generalize tIf zLT u87 ⟨p1, pl1, er1, ok1⟩ = o at h2 ⊢
  have h2' := fun L => uf9 (h2 L)
  simp +contextual -dsimp (disch := omega) only [↓kDown, kUp, ↓goDown, goUp, cr, simprocAttr, h1, h2, h2', ul6, u26, u3r]
  all_goals rfl) hc
def ue6 : ES b → GO × ES b := tBind tVal fun v => tIf zGO (tBind (tSmall 1) fun n => tPure ⟨v, n == 1⟩)
theorem uqu (hb : b.length < 2 ^ 60) (hc : c < List.length H) : outT z c H L encGO (C u1c [.ptr c 0]) (ue6 (b := b)) := liftO (fun H hc p pl er ok => by
  have h1 := fun L => valT (L := L) (z := z) hb hc p pl er ok
  rw [u6h]
  unfold ue6 tBind tIf tPure
  generalize tVal ⟨p, pl, er, ok⟩ = o at h1 ⊢
  obtain ⟨v, p1, pl1, er1, ok1⟩ := o
  dsimp only at h1 ⊢
  have e0 : ((er1 : Int) = 0) = (er1 = 0) := by rw [eq_iff_iff]; omega
  have h2 : ∀ L, runK c (C u01 [.ptr c 0, .int .u8 1]) (St H c (.cells [BS z b, .int .i64 p1, .int .i64 pl1, .int .i64 er1]) L) = _ := fun L => smallT (most := 1) (L := L) (z := z) hb hc p1 pl1 er1 ok1
  generalize tSmall 1 ⟨p1, pl1, er1, ok1⟩ = o at h2 ⊢
  have h2' := fun L => uf9 (h2 L)
  by_cases g0 : er1 = 0
  · simp only [if_pos g0]
    simp +contextual -dsimp (disch := omega) only [↓kDown, kUp, ↓goDown, goUp, cr, simprocAttr, h1, h2, h2', e0, eq_true g0, ul6, u3g, um9]
    all_goals rfl
  · simp only [if_neg g0]
    simp +contextual -dsimp (disch := omega) only [↓kDown, kUp, ↓goDown, goUp, cr, simprocAttr, h1, h2, h2', e0, eq_false g0, ul6, u3g, um9]
    all_goals rfl) hc
def tTag : ES b → Int × ES b := tBind (tSmall 0) fun _ => tIndex
def tExtK (k : Int) (t : ES b) : XT × ES b :=
  if k = 0 then tBind tIndex (fun n => tPure ⟨k, n, zTB, zLT, zGO⟩) t
  else if k = 1 then tBind tTable (fun v => tPure ⟨k, 0, v, zLT, zGO⟩) t
  else if k = 2 then tBind u87 (fun v => tPure ⟨k, 0, zTB, v, zGO⟩) t
  else if k = 3 then tBind ue6 (fun v => tPure ⟨k, 0, zTB, zLT, v⟩) t
  else tBind tTag (fun n => tPure ⟨k, n, zTB, zLT, zGO⟩) t
def tExt : ES b → XT × ES b := tBind (tSmall 4) fun k => tIf ⟨IntKind.i64.wrap (k : Int), 0, zTB, zLT, zGO⟩ (tExtK (IntKind.i64.wrap (k : Int)))
theorem uwx (hb : b.length < 2 ^ 60) (hc : c < List.length H) : outT z c H L encXT (C u11 [.ptr c 0]) (tExt (b := b)) := liftO (fun H hc p pl er ok => by
  have h1 : ∀ L, runK c (C u01 [.ptr c 0, .int .u8 4]) (St H c (.cells [BS z b, .int .i64 p, .int .i64 pl, .int .i64 er]) L) = _ := fun L => smallT (most := 4) (L := L) (z := z) hb hc p pl er ok
  rw [u6g]
  unfold tExt tBind tIf
  generalize tSmall 4 ⟨p, pl, er, ok⟩ = o at h1 ⊢
  obtain ⟨x, p1, pl1, er1, ok1⟩ := o
  dsimp only at h1 ⊢
  have e0 : ((er1 : Int) = 0) = (er1 = 0) := by rw [eq_iff_iff]; omega
  obtain ⟨k, hk⟩ : ∃ k, IntKind.i64.wrap (x : Int) = k := ⟨_, rfl⟩
  rw [hk]
  by_cases g0 : er1 = 0
  · simp only [if_pos g0]
    unfold tExtK
    by_cases c0 : k = 0
    · have h2 := fun L => indexT (L := L) (z := z) hb hc p1 pl1 er1 ok1
      simp only [if_pos c0]
      unfold tBind tPure
      generalize tIndex ⟨p1, pl1, er1, ok1⟩ = o at h2 ⊢
      simp +contextual -dsimp (disch := omega) only [↓kDown, kUp, ↓goDown, goUp, cr, simprocAttr, h1, hk, e0, eq_true g0, eq_true c0, h2, u0s, u57]
      all_goals rfl
    simp only [if_neg c0]
    by_cases c1 : k = 1
    · have h2 := fun L => tableT (L := L) (z := z) hb hc p1 pl1 er1 ok1
      simp only [if_pos c1]
      unfold tBind tPure
      generalize tTable ⟨p1, pl1, er1, ok1⟩ = o at h2 ⊢
      simp +contextual -dsimp (disch := omega) only [↓kDown, kUp, ↓goDown, goUp, cr, simprocAttr, h1, hk, e0, eq_true g0, eq_false c0, eq_true c1, h2, u0s, u3r, u57]
      all_goals rfl
    simp only [if_neg c1]
    by_cases c2 : k = 2
    · have h2 := fun L => ulk (L := L) (z := z) hb hc p1 pl1 er1 ok1
      simp only [if_pos c2]
      unfold tBind tPure
      generalize u87 ⟨p1, pl1, er1, ok1⟩ = o at h2 ⊢
      simp +contextual -dsimp (disch := omega) only [↓kDown, kUp, ↓goDown, goUp, cr, simprocAttr, h1, hk, e0, eq_true g0, eq_false c0, eq_false c1, eq_true c2, h2, u0s, u26, u57]
      all_goals rfl
    simp only [if_neg c2]
    by_cases c3 : k = 3
    · have h2 := fun L => uqu (L := L) (z := z) hb hc p1 pl1 er1 ok1
      simp only [if_pos c3]
      unfold tBind tPure
      generalize ue6 ⟨p1, pl1, er1, ok1⟩ = o at h2 ⊢
      simp +contextual -dsimp (disch := omega) only [↓kDown, kUp, ↓goDown, goUp, cr, simprocAttr, h1, hk, e0, eq_true g0, eq_false c0, eq_false c1, eq_false c2, eq_true c3, h2, u0s, u3g, u57]
      all_goals rfl
    simp only [if_neg c3]
    have h2 : ∀ L, runK c (C u01 [.ptr c 0, .int .u8 0]) (St H c (.cells [BS z b, .int .i64 p1, .int .i64 pl1, .int .i64 er1]) L) = _ := fun L => smallT (most := 0) (L := L) (z := z) hb hc p1 pl1 er1 ok1
    unfold tTag tBind tPure
    generalize tSmall 0 ⟨p1, pl1, er1, ok1⟩ = o at h2 ⊢
    obtain ⟨y, p2, pl2, er2, ok2⟩ := o
    dsimp only at h2 ⊢
    have h3 := fun L => indexT (L := L) (z := z) hb hc p2 pl2 er2 ok2
    generalize tIndex ⟨p2, pl2, er2, ok2⟩ = o at h3 ⊢
    simp +contextual -dsimp (disch := omega) only [↓kDown, kUp, ↓goDown, goUp, cr, simprocAttr, h1, hk, e0, eq_true g0, eq_false c0, eq_false c1, eq_false c2, eq_false c3, h2, h3, u0s, u57]
    all_goals rfl
  · simp only [if_neg g0]
    simp +contextual -dsimp (disch := omega) only [↓kDown, kUp, ↓goDown, goUp, cr, simprocAttr, h1, hk, e0, eq_false g0, u57]
    all_goals rfl) hc
theorem uj0 {f : ES b → α × ES b} {g : α → ES b → β × ES b} {r : Nat → Rs α} {s : α → Nat → Rs β} (hf : Fol f r) (hst : ∀ v t, t.er ≠ 0 → (g v t).2.er = t.er ∧ (g v t).2.pl = t.pl) (hg : ∀ v p q, r p = .ok v q → Fol (g v) (s v)) : Fol (tBind f g) (rBind r s) := by
  intro t
  have h1 := hf t
  unfold tBind rBind
  refine ⟨fun he => ?_, fun he => ?_⟩
  · have h3 := h1.1 he
    have h4 := hst (f t).1 (f t).2 (by omega)
    exact ⟨h4.1.trans h3.1, h4.2.trans h3.2⟩
  · have h3 := h1.2 he
    cases hr : r t.p with
    | ok v q =>
      rw [hr] at h3
      dsimp only at h3
      have h4 := (hg v t.p q hr (f t).2).2 h3.2.2
      rw [h3.2.1] at h4
      rw [h3.1]
      exact h4
    | err a w =>
      rw [hr] at h3
      dsimp only at h3
      have h4 := hst (f t).1 (f t).2 (by omega)
      exact ⟨h4.2.trans h3.1, h4.1.trans h3.2.1, h3.2.2⟩
theorem uds {w h : Bool} : Fol (b := b) (tLim2 w h) (rLim2 w h b) := by
  have hn : Fol (b := b) (tNum w) (rNum w b) := fol_tX
  intro t
  have h1 := hn t
  have h2 := hn (tNum w t).2
  unfold tLim2 rLim2 rMaxi
  cases h with
  | false =>
    simp only [Bool.false_eq_true, if_false]
    refine ⟨h1.1, fun he => ?_⟩
    have h3 := h1.2 he
    cases hr : rNum w b t.p with
    | ok v q => rw [hr] at h3; dsimp only at h3 ⊢; obtain ⟨e1, e2, e3⟩ := h3; exact ⟨by rw [e1], e2, e3⟩
    | err a e => rw [hr] at h3; exact h3
  | true =>
    simp only [if_true]
    refine ⟨fun he => ?_, fun he => ?_⟩
    · have h3 := h1.1 he
      have h4 := h2.1 (by omega)
      exact ⟨h4.1.trans h3.1, h4.2.trans h3.2⟩
    · have h3 := h1.2 he
      cases hr : rNum w b t.p with
      | ok v q =>
        rw [hr] at h3
        dsimp only at h3 ⊢
        obtain ⟨e1, e2, e3⟩ := h3
        have h4 := h2.2 e3
        rw [e2] at h4
        cases hr2 : rNum w b q with
        | ok v2 q2 => rw [hr2] at h4; dsimp only at h4 ⊢; obtain ⟨d1, d2, d3⟩ := h4; exact ⟨by rw [e1, d1], d2, d3⟩
        | err a e => rw [hr2] at h4; exact h4
      | err a e =>
        rw [hr] at h3
        dsimp only at h3 ⊢
        obtain ⟨e1, e2, e3⟩ := h3
        have h4 := h2.1 (by omega)
        exact ⟨h4.2.trans e1, h4.1.trans e2, e3⟩
theorem ud1 : Fol (b := b) u87 (u68 b) := by
  have hs : Fol (b := b) (tSmall 5) (rSmall b 5) := fol_tX
  intro t
  have h1 := hs t
  unfold u87 u68
  refine ⟨fun he => ?_, fun he => ?_⟩
  · have h3 := h1.1 he
    have ef : ∀ on, tFl on t.p (tSmall 5 t).2 = (tSmall 5 t).2 := fun on => by unfold tFl; rw [if_neg (by omega)]
    rw [ef]
    have h4 := (uds (b := b) (w := decide (4 ≤ (tSmall 5 t).1)) (h := (tSmall 5 t).1 % 2 == 1) (tSmall 5 t).2).1 (by omega)
    exact ⟨h4.1.trans h3.1, h4.2.trans h3.2⟩
  · have h3 := h1.2 he
    cases hr : rSmall b 5 t.p with
    | ok x q =>
      rw [hr] at h3
      dsimp only at h3 ⊢
      obtain ⟨e1, e2, e3⟩ := h3
      have hx := (uch hr).2
      rw [e1]
      by_cases g : 1 < x ∧ x < 4
      · rw [if_pos g]
        have h4 := (uds (b := b) (w := decide (4 ≤ x)) (h := x % 2 == 1) (tFl (decide (1 < x ∧ x < 4)) t.p (tSmall 5 t).2)).1 (by unfold tFl; rw [if_pos ⟨decide_eq_true g, e3⟩]; exact Nat.succ_ne_zero 3)
        refine ⟨h4.2.trans ?_, h4.1.trans ?_, by decide⟩
        · unfold tFl; rw [if_pos ⟨decide_eq_true g, e3⟩]
        · unfold tFl; rw [if_pos ⟨decide_eq_true g, e3⟩]
      · rw [if_neg g]
        have ef : tFl (decide (1 < x ∧ x < 4)) t.p (tSmall 5 t).2 = (tSmall 5 t).2 := by
          unfold tFl
          rw [if_neg]
          rintro ⟨g1, _⟩
          exact g (of_decide_eq_true g1)
        rw [ef]
        have h4 := (uds (b := b) (w := decide (4 ≤ x)) (h := x % 2 == 1) (tSmall 5 t).2).2 e3
        rw [e2] at h4
        have ew : decide (4 ≤ x) = decide (1 < x) := decide_eq_decide.mpr (by omega)
        rw [ew] at h4 ⊢
        exact h4
    | err a e =>
      rw [hr] at h3
      dsimp only at h3 ⊢
      obtain ⟨e1, e2, e3⟩ := h3
      have ef : ∀ on, tFl on t.p (tSmall 5 t).2 = (tSmall 5 t).2 := fun on => by unfold tFl; rw [if_neg (by omega)]
      rw [ef]
      have h4 := (uds (b := b) (w := decide (4 ≤ (tSmall 5 t).1)) (h := (tSmall 5 t).1 % 2 == 1) (tSmall 5 t).2).1 (by omega)
      exact ⟨h4.2.trans e1, h4.1.trans e2, e3⟩
theorem uii : Fol (b := b) tTable (rTable b) := u3q fol_tX fun _ => u3q (fol_if ud1) fun _ => u70
theorem ugz : Fol (b := b) ue6 (u9d b) := u3q fol_tX fun _ => fol_if (u3q fol_tX fun _ => u70)
theorem uwi : Fol (b := b) tTag (rTag b) := u3q fol_tX fun _ => fol_tX
theorem uts {k : Int} (h : k = 0 ∨ k = 1 ∨ k = 2 ∨ k = 3 ∨ k = 4) : Fol (b := b) (tExtK k) (rExtK b k) := by
  rcases h with rfl | rfl | rfl | rfl | rfl
  · exact (u3q (r := rIndex b) fol_tX fun _ => u70 : Fol _ _)
  · exact (u3q uii fun _ => u70 : Fol _ _)
  · exact (u3q ud1 fun _ => u70 : Fol _ _)
  · exact (u3q ugz fun _ => u70 : Fol _ _)
  · exact (u3q uwi fun _ => u70 : Fol _ _)
theorem uwq : Fol (b := b) tExt (rExt b) := by
  refine uj0 fol_tX (fun v t he => ?_) fun v p q hr => fol_if (uts ?_)
  · unfold tIf
    rw [if_neg he]
    exact ⟨rfl, rfl⟩
  · have := (uch hr).2
    rw [w_i64 (by omega)]
    omega
end Go.Proofs.YthnmienjiangkaaGreatDoor.Pi.Q
namespace Go.Proofs.YthnmienjiangkaaGreatDoor.Pi.Q
open Go Go.Proofs.YthnmienjiangkaaGreatDoor.Pi
attribute [local congr] ite_congr
theorem up3 {H : Heap} {b : List UInt8} {z : Bool} (hb : b.length < 2 ^ 60) {at_ : Int} :
    run (C u4g [BS z b, .int .i64 at_]) H = some (.ok (atPl at_ b (encLT zLT) (outR encLT (encLT zLT) (u68 b at_.toNat))) H) := by
  rw [u97]
  unfold atPl
  have hbg := uad (H := hadd H [.cells [.bool false, .int .u64 0, .int .u64 0, .bool false]]) (z := z) (b := b) (at_ := at_)
  simp only [u6u, u9q, List.length_cons, List.length_nil, List.cons_append, List.nil_append, Nat.zero_add] at hbg
  by_cases h1 : at_ < 0 ∨ (b.length : Int) < at_
  · have e : decide (¬ (at_ < 0 ∨ (b.length : Int) < at_)) = false := decide_eq_false (fun h => h h1)
    rw [e] at hbg
    rw [if_pos h1]
    simp +contextual -dsimp (disch := omega) only [↓goDown, goUp, cr, simprocAttr, hbg, un_not]
    all_goals rfl
  · have e : decide (¬ (at_ < 0 ∨ (b.length : Int) < at_)) = true := decide_eq_true h1
    rw [e] at hbg
    rw [if_neg h1]
    obtain ⟨p, rfl⟩ := Int.eq_ofNat_of_zero_le (show 0 ≤ at_ by omega)
    rw [Int.toNat_natCast]
    have hk := uma (H := hadd H [.cells [.bool false, .int .u64 0, .int .u64 0, .bool false], rst z b p 0 0]) (c := H.length + 1) (z := z) (b := b) (enc := encLT) (m := C u0e [.ptr (H.length + 1) 0]) ud1 (show p ≤ b.length by omega) (by rw [u2k]; rfl) (fun H hc => ulk hb hc)
    have hst : ∀ q a w, Pi.hset (hadd H [.cells [.bool false, .int .u64 0, .int .u64 0, .bool false], rst z b p 0 0]) (H.length + 1) (rst z b q a w) = hadd H [.cells [.bool false, .int .u64 0, .int .u64 0, .bool false], rst z b q a w] := fun q a w => by rw [u67]; rfl
    have hrI : rstI z b (p : Int) = rst z b p 0 0 := rfl
    rw [hrI] at hbg
    cases hr : u68 b p with
    | ok v q =>
      rw [hr] at hk
      simp only [outF, hst] at hk
      have he := fun x => end_ok (H := hadd H [.cells [.bool false, .int .u64 0, .int .u64 0, .bool false], rst z b q 0 0, x]) (c := H.length + 1) (z := z) (b := b) (p := q) (by rw [u2k]; rfl)
      simp +contextual -dsimp (disch := omega) only [↓goDown, goUp, cr, simprocAttr, hbg, un_not, hk, he, outR, encLT]
    | err a w =>
      rw [hr] at hk
      obtain ⟨v, q, hk, hw⟩ := hk
      rw [hst] at hk
      have he := fun x => u8z (H := hadd H [.cells [.bool false, .int .u64 0, .int .u64 0, .bool false], rst z b q a w, x]) (c := H.length + 1) (z := z) (b := b) (p := q) (by rw [u2k]; rfl) hw
      have c1 : ¬ (w : Int) = 0 := by omega
      simp +contextual -dsimp (disch := omega) only [↓goDown, goUp, cr, simprocAttr, hbg, un_not, hk, he, outR, encLT, c1]
theorem uhz {H : Heap} {b : List UInt8} {z : Bool} (hb : b.length < 2 ^ 60) {at_ : Int} :
    run (C u3t [BS z b, .int .i64 at_]) H = some (.ok (atPl at_ b (encTB zTB) (outR encTB (encTB zTB) (rTable b at_.toNat))) H) := by
  rw [u86]
  unfold atPl
  have hbg := uad (H := hadd H [.cells [.int .i64 0, .bool false, .int .i64 0, .bool false, .int .u64 0, .int .u64 0, .bool false]]) (z := z) (b := b) (at_ := at_)
  simp only [u6u, u9q, List.length_cons, List.length_nil, List.cons_append, List.nil_append, Nat.zero_add] at hbg
  by_cases h1 : at_ < 0 ∨ (b.length : Int) < at_
  · have e : decide (¬ (at_ < 0 ∨ (b.length : Int) < at_)) = false := decide_eq_false (fun h => h h1)
    rw [e] at hbg
    rw [if_pos h1]
    simp +contextual -dsimp (disch := omega) only [↓goDown, goUp, cr, simprocAttr, hbg, un_not]
    all_goals rfl
  · have e : decide (¬ (at_ < 0 ∨ (b.length : Int) < at_)) = true := decide_eq_true h1
    rw [e] at hbg
    rw [if_neg h1]
    obtain ⟨p, rfl⟩ := Int.eq_ofNat_of_zero_le (show 0 ≤ at_ by omega)
    rw [Int.toNat_natCast]
    have hk := uma (H := hadd H [.cells [.int .i64 0, .bool false, .int .i64 0, .bool false, .int .u64 0, .int .u64 0, .bool false], rst z b p 0 0]) (c := H.length + 1) (z := z) (b := b) (enc := encTB) (m := C u1e [.ptr (H.length + 1) 0]) uii (show p ≤ b.length by omega) (by rw [u2k]; rfl) (fun H hc => tableT hb hc)
    have hst : ∀ q a w, Pi.hset (hadd H [.cells [.int .i64 0, .bool false, .int .i64 0, .bool false, .int .u64 0, .int .u64 0, .bool false], rst z b p 0 0]) (H.length + 1) (rst z b q a w) = hadd H [.cells [.int .i64 0, .bool false, .int .i64 0, .bool false, .int .u64 0, .int .u64 0, .bool false], rst z b q a w] := fun q a w => by rw [u67]; rfl
    have hrI : rstI z b (p : Int) = rst z b p 0 0 := rfl
    rw [hrI] at hbg
    cases hr : rTable b p with
    | ok v q =>
      rw [hr] at hk
      simp only [outF, hst] at hk
      have he := fun x => end_ok (H := hadd H [.cells [.int .i64 0, .bool false, .int .i64 0, .bool false, .int .u64 0, .int .u64 0, .bool false], rst z b q 0 0, x]) (c := H.length + 1) (z := z) (b := b) (p := q) (by rw [u2k]; rfl)
      simp +contextual -dsimp (disch := omega) only [↓goDown, goUp, cr, simprocAttr, hbg, un_not, hk, he, outR, encTB]
    | err a w =>
      rw [hr] at hk
      obtain ⟨v, q, hk, hw⟩ := hk
      rw [hst] at hk
      have he := fun x => u8z (H := hadd H [.cells [.int .i64 0, .bool false, .int .i64 0, .bool false, .int .u64 0, .int .u64 0, .bool false], rst z b q a w, x]) (c := H.length + 1) (z := z) (b := b) (p := q) (by rw [u2k]; rfl) hw
      have c1 : ¬ (w : Int) = 0 := by omega
      simp +contextual -dsimp (disch := omega) only [↓goDown, goUp, cr, simprocAttr, hbg, un_not, hk, he, outR, encTB, c1]
theorem ug2 {H : Heap} {b : List UInt8} {z : Bool} (hb : b.length < 2 ^ 60) {at_ : Int} :
    run (C u3k [BS z b, .int .i64 at_]) H = some (.ok (atPl at_ b (encGO zGO) (outR encGO (encGO zGO) (u9d b at_.toNat))) H) := by
  rw [u7r]
  unfold atPl
  have hbg := uad (H := hadd H [.cells [.int .i64 0, .bool false, .int .i64 0, .bool false]]) (z := z) (b := b) (at_ := at_)
  simp only [u6u, u9q, List.length_cons, List.length_nil, List.cons_append, List.nil_append, Nat.zero_add] at hbg
  by_cases h1 : at_ < 0 ∨ (b.length : Int) < at_
  · have e : decide (¬ (at_ < 0 ∨ (b.length : Int) < at_)) = false := decide_eq_false (fun h => h h1)
    rw [e] at hbg
    rw [if_pos h1]
    simp +contextual -dsimp (disch := omega) only [↓goDown, goUp, cr, simprocAttr, hbg, un_not]
    all_goals rfl
  · have e : decide (¬ (at_ < 0 ∨ (b.length : Int) < at_)) = true := decide_eq_true h1
    rw [e] at hbg
    rw [if_neg h1]
    obtain ⟨p, rfl⟩ := Int.eq_ofNat_of_zero_le (show 0 ≤ at_ by omega)
    rw [Int.toNat_natCast]
    have hk := uma (H := hadd H [.cells [.int .i64 0, .bool false, .int .i64 0, .bool false], rst z b p 0 0]) (c := H.length + 1) (z := z) (b := b) (enc := encGO) (m := C u1c [.ptr (H.length + 1) 0]) ugz (show p ≤ b.length by omega) (by rw [u2k]; rfl) (fun H hc => uqu hb hc)
    have hst : ∀ q a w, Pi.hset (hadd H [.cells [.int .i64 0, .bool false, .int .i64 0, .bool false], rst z b p 0 0]) (H.length + 1) (rst z b q a w) = hadd H [.cells [.int .i64 0, .bool false, .int .i64 0, .bool false], rst z b q a w] := fun q a w => by rw [u67]; rfl
    have hrI : rstI z b (p : Int) = rst z b p 0 0 := rfl
    rw [hrI] at hbg
    cases hr : u9d b p with
    | ok v q =>
      rw [hr] at hk
      simp only [outF, hst] at hk
      have he := fun x => end_ok (H := hadd H [.cells [.int .i64 0, .bool false, .int .i64 0, .bool false], rst z b q 0 0, x]) (c := H.length + 1) (z := z) (b := b) (p := q) (by rw [u2k]; rfl)
      simp +contextual -dsimp (disch := omega) only [↓goDown, goUp, cr, simprocAttr, hbg, un_not, hk, he, outR, encGO]
    | err a w =>
      rw [hr] at hk
      obtain ⟨v, q, hk, hw⟩ := hk
      rw [hst] at hk
      have he := fun x => u8z (H := hadd H [.cells [.int .i64 0, .bool false, .int .i64 0, .bool false], rst z b q a w, x]) (c := H.length + 1) (z := z) (b := b) (p := q) (by rw [u2k]; rfl) hw
      have c1 : ¬ (w : Int) = 0 := by omega
      simp +contextual -dsimp (disch := omega) only [↓goDown, goUp, cr, simprocAttr, hbg, un_not, hk, he, outR, encGO, c1]
theorem at1 {α : Type} {b : List UInt8} {z : Bool} {H : Heap} {enc : α → PV} {m : Nat → M PV} {f : ES b → α × ES b} (h : ∀ (H : Heap) (c : Nat) (L : List Box), c < List.length H → outT z c H L enc (m c) f) {p pl er : Nat} {ok : er = 0 → pl = 0 ∧ p ≤ b.length} {L : List Box} :
    run (m (List.length H)) (hadd H (.cells [BS z b, .int .i64 p, .int .i64 pl, .int .i64 er] :: L)) = some (.ok (enc (f ⟨p, pl, er, ok⟩).1) (hadd H (.cells [BS z b, .int .i64 (f ⟨p, pl, er, ok⟩).2.p, .int .i64 (f ⟨p, pl, er, ok⟩).2.pl, .int .i64 (f ⟨p, pl, er, ok⟩).2.er] :: L))) := by
  have := uf9 (h (hadd H [.dead]) (List.length H) L uvg p pl er ok)
  rw [← St_new, ← St_new] at this
  exact this
theorem St_two {H : Heap} {L : List Box} {x y : Box} : hadd H (x :: y :: L) = St (hadd H [x, .dead]) (List.length H + 1) y L := by
  unfold St hadd hset
  rw [List.set_append_right _ _ (by omega)]
  simp
theorem at2 {α : Type} {b : List UInt8} {z : Bool} {H : Heap} {enc : α → PV} {m : Nat → M PV} {f : ES b → α × ES b} (h : ∀ (H : Heap) (c : Nat) (L : List Box), c < List.length H → outT z c H L enc (m c) f) {p pl er : Nat} {ok : er = 0 → pl = 0 ∧ p ≤ b.length} {x : Box} {L : List Box} :
    run (m (List.length H + 1)) (hadd H (x :: .cells [BS z b, .int .i64 p, .int .i64 pl, .int .i64 er] :: L)) = some (.ok (enc (f ⟨p, pl, er, ok⟩).1) (hadd H (x :: .cells [BS z b, .int .i64 (f ⟨p, pl, er, ok⟩).2.p, .int .i64 (f ⟨p, pl, er, ok⟩).2.pl, .int .i64 (f ⟨p, pl, er, ok⟩).2.er] :: L))) := by
  have := uf9 (h (hadd H [x, .dead]) (List.length H + 1) L (by rw [u6u]; simp) p pl er ok)
  rw [← St_two, ← St_two] at this
  exact this
def tTagT {b : List UInt8} : ES b → Int × ES b := tBind (tSmall 0) fun _ => tIf 0 tIndex
theorem uv8 {b : List UInt8} : Fol (b := b) tTagT (rTag b) := u3q fol_tX fun _ => fol_if fol_tX
theorem uwv {H : Heap} {b : List UInt8} {z : Bool} (hb : b.length < 2 ^ 60) {at_ : Int} :
    run (C u4c [BS z b, .int .i64 at_]) H = some (.ok (atPl at_ b (.int .i64 0) (outR (fun x : Int => .int .i64 x) (.int .i64 0) (rTag b at_.toNat))) H) := by
  rw [ubn]
  unfold atPl
  have hbg := uad (H := H) (z := z) (b := b) (at_ := at_)
  by_cases h1 : at_ < 0 ∨ (b.length : Int) < at_
  · have e : decide (¬ (at_ < 0 ∨ (b.length : Int) < at_)) = false := decide_eq_false (fun h => h h1)
    rw [e] at hbg
    rw [if_pos h1]
    simp +contextual -dsimp (disch := omega) only [↓goDown, goUp, cr, simprocAttr, hbg, un_not]
  · have e : decide (¬ (at_ < 0 ∨ (b.length : Int) < at_)) = true := decide_eq_true h1
    rw [e] at hbg
    rw [if_neg h1]
    obtain ⟨p, rfl⟩ := Int.eq_ofNat_of_zero_le (show 0 ≤ at_ by omega)
    rw [Int.toNat_natCast]
    have hp : p ≤ b.length := by omega
    have hbg : run (C u15 [BS z b, .int .i64 p]) H = some (.ok (.tup [.ptr H.length 0, .bool true]) (hadd H [.cells [BS z b, .int .i64 p, .int .i64 0, .int .i64 0]])) := hbg
    have hf := (uv8 (b := b) ⟨p, 0, 0, fun _ => ⟨rfl, hp⟩⟩).2 rfl
    have h1 : run (C u01 [.ptr H.length 0, .int .u8 0]) (hadd H [.cells [BS z b, .int .i64 p, .int .i64 0, .int .i64 0]]) = _ := at1 (H := H) (z := z) (L := []) (fun H c L hc => smallT (most := 0) hb hc) (p := p) (pl := 0) (er := 0) (ok := fun _ => ⟨rfl, hp⟩)
    unfold tTagT tBind tIf at hf
    generalize tSmall 0 ⟨p, 0, 0, _⟩ = o at h1 hf
    obtain ⟨x, p1, pl1, er1, ok1⟩ := o
    dsimp only at h1 hf
    have e1 : ((er1 : Int) = 0) = (er1 = 0) := by rw [eq_iff_iff]; omega
    by_cases g0 : er1 = 0
    · have h2 : run (C u0k [.ptr H.length 0]) (hadd H [.cells [BS z b, .int .i64 p1, .int .i64 pl1, .int .i64 er1]]) = _ := at1 (H := H) (z := z) (L := []) (fun H c L hc => indexT hb hc) (p := p1) (pl := pl1) (er := er1) (ok := ok1)
      simp only [if_pos g0] at hf
      generalize tIndex ⟨p1, pl1, er1, ok1⟩ = o at h2 hf
      obtain ⟨y, p2, pl2, er2, ok2⟩ := o
      dsimp only at h2 hf
      cases hr : rTag b p with
      | ok v q =>
        rw [hr] at hf
        dsimp only at hf
        obtain ⟨rfl, rfl, rfl⟩ := hf
        obtain ⟨rfl, _⟩ := ok2 rfl
        have he := end_ok (H := hadd H [.cells [BS z b, .int .i64 p2, .int .i64 (0 : Nat), .int .i64 (0 : Nat)]]) (c := H.length) (z := z) (b := b) (p := p2) (by rw [u8x]; rfl)
        have e00 : ((0 : Nat) : Int) = 0 := rfl
        rw [e00] at he h2
        simp +contextual -dsimp (disch := omega) only [↓goDown, goUp, cr, simprocAttr, hbg, un_not, h1, e1, eq_true g0, h2, u2u, he, outR]
        all_goals rfl
      | err a w =>
        rw [hr] at hf
        dsimp only at hf
        obtain ⟨rfl, rfl, hw⟩ := hf
        have he := u8z (H := hadd H [.cells [BS z b, .int .i64 p2, .int .i64 pl2, .int .i64 er2]]) (c := H.length) (z := z) (b := b) (p := p2) (by rw [u8x]; rfl) hw
        have c1 : ((er2 : Int) = 0) = False := eq_false (by omega)
        simp +contextual -dsimp (disch := omega) only [↓goDown, goUp, cr, simprocAttr, hbg, un_not, h1, e1, eq_true g0, h2, u2u, he, c1, outR]
        all_goals rfl
    · simp only [if_neg g0] at hf
      cases hr : rTag b p with
      | ok v q =>
        rw [hr] at hf
        exact absurd hf.2.2 g0
      | err a w =>
        rw [hr] at hf
        dsimp only at hf
        obtain ⟨rfl, rfl, hw⟩ := hf
        have he := u8z (H := hadd H [.cells [BS z b, .int .i64 p1, .int .i64 pl1, .int .i64 er1]]) (c := H.length) (z := z) (b := b) (p := p1) (by rw [u8x]; rfl) hw
        simp +contextual -dsimp (disch := omega) only [↓goDown, goUp, cr, simprocAttr, hbg, un_not, h1, e1, eq_false g0, u2u, he, outR]
        all_goals rfl
def uqp {b : List UInt8} : ES b → IM × ES b := tBind tNm fun m => tBind tNm fun n => tBind (tIf zXT tExt) fun x => tPure ⟨⟨m.toArray⟩, ⟨n.toArray⟩, x⟩
theorem upu {b : List UInt8} : Fol (b := b) uqp (u9u b) := u3q fol_tX fun _ => u3q fol_tX fun _ => u3q (fol_if uwq) fun _ => u70
theorem upo {H : Heap} {b : List UInt8} {z : Bool} (hb : b.length < 2 ^ 60) {at_ : Int} :
    run (C u3h [BS z b, .int .i64 at_]) H = some (.ok (atPl at_ b (encIM zIM) (outR encIM (encIM zIM) (u9u b at_.toNat))) H) := by
  rw [u9b]
  unfold atPl
  have hbg := uad (H := hadd H [.cells [.str ⟨#[]⟩, .str ⟨#[]⟩, .int .i64 0, .int .i64 0, .int .i64 0, .bool false, .int .i64 0, .bool false, .int .u64 0, .int .u64 0, .bool false, .bool false, .int .u64 0, .int .u64 0, .bool false, .int .i64 0, .bool false, .int .i64 0, .bool false]]) (z := z) (b := b) (at_ := at_)
  simp only [u6u, u9q, List.length_cons, List.length_nil, List.cons_append, List.nil_append, Nat.zero_add] at hbg
  by_cases h1 : at_ < 0 ∨ (b.length : Int) < at_
  · have e : decide (¬ (at_ < 0 ∨ (b.length : Int) < at_)) = false := decide_eq_false (fun h => h h1)
    rw [e] at hbg
    rw [if_pos h1]
    simp +contextual -dsimp (disch := omega) only [↓goDown, goUp, cr, simprocAttr, hbg, un_not]
    all_goals rfl
  · have e : decide (¬ (at_ < 0 ∨ (b.length : Int) < at_)) = true := decide_eq_true h1
    rw [e] at hbg
    rw [if_neg h1]
    obtain ⟨p, rfl⟩ := Int.eq_ofNat_of_zero_le (show 0 ≤ at_ by omega)
    rw [Int.toNat_natCast]
    have hp : p ≤ b.length := by omega
    have hrI : rstI z b (p : Int) = .cells [BS z b, .int .i64 p, .int .i64 0, .int .i64 0] := rfl
    rw [hrI] at hbg
    have e00 : ((0 : Nat) : Int) = 0 := rfl
    have hf := (upu (b := b) ⟨p, 0, 0, fun _ => ⟨rfl, hp⟩⟩).2 rfl
    unfold uqp tBind tIf tPure at hf
    have h1 : ∀ (x : Box) L, run (C u06 [.ptr (H.length + 1) 0]) (hadd H (x :: .cells [BS z b, .int .i64 p, .int .i64 0, .int .i64 0] :: L)) = _ := fun x L => at2 (H := H) (z := z) (x := x) (L := L) (m := fun c => C u06 [.ptr c 0]) (fun H c L hc => nmT hb hc) (p := p) (pl := 0) (er := 0) (ok := fun _ => ⟨rfl, hp⟩)
    generalize tNm ⟨p, 0, 0, _⟩ = o at h1 hf
    obtain ⟨m, p1, pl1, er1, ok1⟩ := o
    dsimp only at h1 hf
    have h2 : ∀ (x : Box) L, run (C u06 [.ptr (H.length + 1) 0]) (hadd H (x :: .cells [BS z b, .int .i64 p1, .int .i64 pl1, .int .i64 er1] :: L)) = _ := fun x L => at2 (H := H) (z := z) (x := x) (L := L) (m := fun c => C u06 [.ptr c 0]) (fun H c L hc => nmT hb hc) (p := p1) (pl := pl1) (er := er1) (ok := ok1)
    generalize tNm ⟨p1, pl1, er1, _⟩ = o at h2 hf
    obtain ⟨n, p2, pl2, er2, ok2⟩ := o
    dsimp only at h2 hf
    have e1 : ((er2 : Int) = 0) = (er2 = 0) := by rw [eq_iff_iff]; omega
    by_cases g0 : er2 = 0
    · simp only [if_pos g0] at hf
      have h3 : ∀ (x : Box) L, run (C u11 [.ptr (H.length + 1) 0]) (hadd H (x :: .cells [BS z b, .int .i64 p2, .int .i64 pl2, .int .i64 er2] :: L)) = _ := fun x L => at2 (H := H) (z := z) (x := x) (L := L) (m := fun c => C u11 [.ptr c 0]) (fun H c L hc => uwx hb hc) (p := p2) (pl := pl2) (er := er2) (ok := ok2)
      generalize tExt ⟨p2, pl2, er2, _⟩ = o at h3 hf
      obtain ⟨xt, p3, pl3, er3, ok3⟩ := o
      dsimp only at h3 hf
      cases hr : u9u b p with
      | ok v q =>
        rw [hr] at hf
        dsimp only at hf
        obtain ⟨rfl, rfl, rfl⟩ := hf
        obtain ⟨rfl, _⟩ := ok3 rfl
        have he := fun x y => end_ok (H := hadd H [x, .cells [BS z b, .int .i64 p3, .int .i64 (0 : Nat), .int .i64 (0 : Nat)], y]) (c := H.length + 1) (z := z) (b := b) (p := p3) (by rw [u2k]; rfl)
        simp only [e00] at h3
        simp only [e00] at he
        simp +contextual -dsimp (disch := omega) only [↓goDown, goUp, cr, simprocAttr, hbg, un_not, h1, h2, e1, eq_true g0, h3, u28, he, outR, u57, u2r, u7v]
        all_goals rfl
      | err a w =>
        rw [hr] at hf
        dsimp only at hf
        obtain ⟨rfl, rfl, hw⟩ := hf
        have he := fun x y => u8z (H := hadd H [x, .cells [BS z b, .int .i64 p3, .int .i64 pl3, .int .i64 er3], y]) (c := H.length + 1) (z := z) (b := b) (p := p3) (by rw [u2k]; rfl) hw
        have cw : ((er3 : Int) = 0) = False := eq_false (by omega)
        simp +contextual -dsimp (disch := omega) only [↓goDown, goUp, cr, simprocAttr, hbg, un_not, h1, h2, e1, eq_true g0, h3, u28, he, cw, outR, u57, u2r, u7v]
        all_goals rfl
    · simp only [if_neg g0] at hf
      cases hr : u9u b p with
      | ok v q =>
        rw [hr] at hf
        exact absurd hf.2.2 g0
      | err a w =>
        rw [hr] at hf
        dsimp only at hf
        obtain ⟨rfl, rfl, hw⟩ := hf
        have he := fun x y => u8z (H := hadd H [x, .cells [BS z b, .int .i64 p2, .int .i64 pl2, .int .i64 er2], y]) (c := H.length + 1) (z := z) (b := b) (p := p2) (by rw [u2k]; rfl) hw
        simp +contextual -dsimp (disch := omega) only [↓goDown, goUp, cr, simprocAttr, hbg, un_not, h1, h2, e1, eq_false g0, u28, he, outR, u57, u2r, u7v]
        all_goals rfl
def ure {b : List UInt8} : ES b → EX × ES b := tBind tNm fun n => tIf ⟨⟨n.toArray⟩, 0, 0⟩ (tBind (tSmall 4) fun k => tBind (tNum false) fun a => tPure ⟨⟨n.toArray⟩, IntKind.i64.wrap (k : Int), IntKind.u32.wrap (a : Int)⟩)
theorem upn {b : List UInt8} : Fol (b := b) ure (u9s b) := u3q fol_tX fun _ => fol_if (u3q fol_tX fun _ => uj0 (fun t => (fol_tX : Fol (b := b) (tNum false) (rNum false b)) t) (fun v t he => ⟨rfl, rfl⟩) fun v p q hr => by
  have := (uct hr).2
  rw [w_u32 (by omega)]
  exact u70)
theorem uos {H : Heap} {b : List UInt8} {z : Bool} (hb : b.length < 2 ^ 60) {at_ : Int} :
    run (C u3b [BS z b, .int .i64 at_]) H = some (.ok (atPl at_ b (encEX zEX) (outR encEX (encEX zEX) (u9s b at_.toNat))) H) := by
  rw [u9a]
  unfold atPl
  have hbg := uad (H := hadd H [.cells [.str ⟨#[]⟩, .int .i64 0, .int .u32 0]]) (z := z) (b := b) (at_ := at_)
  simp only [u6u, u9q, List.length_cons, List.length_nil, List.cons_append, List.nil_append, Nat.zero_add] at hbg
  by_cases h1 : at_ < 0 ∨ (b.length : Int) < at_
  · have e : decide (¬ (at_ < 0 ∨ (b.length : Int) < at_)) = false := decide_eq_false (fun h => h h1)
    rw [e] at hbg
    rw [if_pos h1]
    simp +contextual -dsimp (disch := omega) only [↓goDown, goUp, cr, simprocAttr, hbg, un_not]
    all_goals rfl
  · have e : decide (¬ (at_ < 0 ∨ (b.length : Int) < at_)) = true := decide_eq_true h1
    rw [e] at hbg
    rw [if_neg h1]
    obtain ⟨p, rfl⟩ := Int.eq_ofNat_of_zero_le (show 0 ≤ at_ by omega)
    rw [Int.toNat_natCast]
    have hp : p ≤ b.length := by omega
    have hrI : rstI z b (p : Int) = .cells [BS z b, .int .i64 p, .int .i64 0, .int .i64 0] := rfl
    rw [hrI] at hbg
    have e00 : ((0 : Nat) : Int) = 0 := rfl
    have hf := (upn (b := b) ⟨p, 0, 0, fun _ => ⟨rfl, hp⟩⟩).2 rfl
    unfold ure tBind tIf tPure at hf
    have h1 : ∀ (x : Box) L, run (C u06 [.ptr (H.length + 1) 0]) (hadd H (x :: .cells [BS z b, .int .i64 p, .int .i64 0, .int .i64 0] :: L)) = _ := fun x L => at2 (H := H) (z := z) (x := x) (L := L) (m := fun c => C u06 [.ptr c 0]) (fun H c L hc => nmT hb hc) (p := p) (pl := 0) (er := 0) (ok := fun _ => ⟨rfl, hp⟩)
    generalize tNm ⟨p, 0, 0, _⟩ = o at h1 hf
    obtain ⟨m, p1, pl1, er1, ok1⟩ := o
    dsimp only at h1 hf
    have e1 : ((er1 : Int) = 0) = (er1 = 0) := by rw [eq_iff_iff]; omega
    by_cases g0 : er1 = 0
    · simp only [if_pos g0] at hf
      have h2 : ∀ (x : Box) L, run (C u01 [.ptr (H.length + 1) 0, .int .u8 4]) (hadd H (x :: .cells [BS z b, .int .i64 p1, .int .i64 pl1, .int .i64 er1] :: L)) = _ := fun x L => at2 (H := H) (z := z) (x := x) (L := L) (m := fun c => C u01 [.ptr c 0, .int .u8 4]) (fun H c L hc => smallT (most := 4) hb hc) (p := p1) (pl := pl1) (er := er1) (ok := ok1)
      generalize tSmall 4 ⟨p1, pl1, er1, _⟩ = o at h2 hf
      obtain ⟨k, p2, pl2, er2, ok2⟩ := o
      dsimp only at h2 hf
      have h3 : ∀ (x : Box) L, run (C u03 [.ptr (H.length + 1) 0, .int .i64 32, .bool false]) (hadd H (x :: .cells [BS z b, .int .i64 p2, .int .i64 pl2, .int .i64 er2] :: L)) = _ := fun x L => at2 (H := H) (z := z) (x := x) (L := L) (m := fun c => C u03 [.ptr c 0, .int .i64 32, .bool false]) (fun H c L hc => numT (w := false) hb hc) (p := p2) (pl := pl2) (er := er2) (ok := ok2)
      generalize tNum false ⟨p2, pl2, er2, _⟩ = o at h3 hf
      obtain ⟨a, p3, pl3, er3, ok3⟩ := o
      dsimp only at h3 hf
      cases hr : u9s b p with
      | ok v q =>
        rw [hr] at hf
        dsimp only at hf
        obtain ⟨rfl, rfl, rfl⟩ := hf
        obtain ⟨rfl, _⟩ := ok3 rfl
        have he := fun x y => end_ok (H := hadd H [x, .cells [BS z b, .int .i64 p3, .int .i64 (0 : Nat), .int .i64 (0 : Nat)], y]) (c := H.length + 1) (z := z) (b := b) (p := p3) (by rw [u2k]; rfl)
        simp only [e00] at h3
        simp only [e00] at he
        simp +contextual -dsimp (disch := omega) only [↓goDown, goUp, cr, simprocAttr, hbg, un_not, h1, e1, eq_true g0, h2, h3, u2b, he, outR, u57, u2r, u7v]
        all_goals rfl
      | err a w =>
        rw [hr] at hf
        dsimp only at hf
        obtain ⟨rfl, rfl, hw⟩ := hf
        have he := fun x y => u8z (H := hadd H [x, .cells [BS z b, .int .i64 p3, .int .i64 pl3, .int .i64 er3], y]) (c := H.length + 1) (z := z) (b := b) (p := p3) (by rw [u2k]; rfl) hw
        have cw : ((er3 : Int) = 0) = False := eq_false (by omega)
        simp +contextual -dsimp (disch := omega) only [↓goDown, goUp, cr, simprocAttr, hbg, un_not, h1, e1, eq_true g0, h2, h3, u2b, he, cw, outR, u57, u2r, u7v]
        all_goals rfl
    · simp only [if_neg g0] at hf
      cases hr : u9s b p with
      | ok v q =>
        rw [hr] at hf
        exact absurd hf.2.2 g0
      | err a w =>
        rw [hr] at hf
        dsimp only at hf
        obtain ⟨rfl, rfl, hw⟩ := hf
        have he := fun x y => u8z (H := hadd H [x, .cells [BS z b, .int .i64 p1, .int .i64 pl1, .int .i64 er1], y]) (c := H.length + 1) (z := z) (b := b) (p := p1) (by rw [u2k]; rfl) hw
        simp +contextual -dsimp (disch := omega) only [↓goDown, goUp, cr, simprocAttr, hbg, un_not, h1, e1, eq_false g0, u2b, he, outR, u57, u2r, u7v]
        all_goals rfl
end Go.Proofs.YthnmienjiangkaaGreatDoor.Pi.Q
namespace Go.Proofs.YthnmienjiangkaaGreatDoor.Pi.Q
open Go Go.Proofs.YthnmienjiangkaaGreatDoor.Pi
attribute [local congr] ite_congr
theorem uan {α : Type} {enc : α → PV} {z : α} {at_ : Int} {b : List UInt8} {r : Rs α} : ∃ v p e, atPl at_ b (enc z) (outR enc (enc z) r) = .tup [enc v, .int .i64 p, .int .i64 e] :=
  u6a (fun t => ∃ v p e, t = .tup [enc v, .int .i64 p, .int .i64 e]) ⟨_, _, _, rfl⟩ (fun v p _ => ⟨_, _, _, rfl⟩) (fun a w _ => ⟨_, _, _, rfl⟩)
theorem udo {ks : List SK} {x : List PV} (h : Like ks x x) {H : Heap} : run (bi .neq (.struct ks) (.agg x) (.agg x)) H = some (.ok (.bool false) H) := uuk h (p := True) (by simp)
theorem uv7 {ks : List SK} {x : List PV} (h : Like ks x x) {H : Heap} : run (bi .eql (.struct ks) (.agg x) (.agg x)) H = some (.ok (.bool true) H) := utu h (p := True) (by simp)
theorem uvr {v w : LT} : Like [.bool, .int, .int, .bool] (cs_LT v) (cs_LT w) := .bool (.int (.int (.bool .nil)))
theorem uvp {v w : TB} : Like [.int, .bool, .int, .bool, .int, .int, .bool] (cs_TB v) (cs_TB w) := .int (.bool (.int (.bool (.int (.int (.bool .nil))))))
theorem uwf {v w : GO} : Like [.int, .bool, .int, .bool] (cs_GO v) (cs_GO w) := .int (.bool (.int (.bool .nil)))
theorem uwy {v w : IM} : Like [.str, .str, .int, .int, .int, .bool, .int, .bool, .int, .int, .bool, .bool, .int, .int, .bool, .int, .bool, .int, .bool] (cs_IM v) (cs_IM w) :=
  .str (.str (.int (.int (.int (.bool (.int (.bool (.int (.int (.bool (.bool (.int (.int (.bool (.int (.bool (.int (.bool .nil))))))))))))))))))
theorem uwg {v w : EX} : Like [.str, .int, .int] (cs_EX v) (cs_EX w) := .str (.int (.int .nil))
theorem rest_true {b : List UInt8} {z : Bool} (hb : b.length < 2 ^ 60) {at_ : Int} {H : Heap} : run (C u5g [BS z b, .int .i64 at_]) H = some (.ok (.bool true) H) := by
  obtain ⟨v1, p1, e1, q1⟩ := uan (enc := encLT) (z := zLT) (at_ := at_) (b := b) (r := u68 b at_.toNat)
  obtain ⟨v2, p2, e2, q2⟩ := uan (enc := encTB) (z := zTB) (at_ := at_) (b := b) (r := rTable b at_.toNat)
  obtain ⟨v3, p3, e3, q3⟩ := uan (enc := encGO) (z := zGO) (at_ := at_) (b := b) (r := u9d b at_.toNat)
  obtain ⟨v4, p4, e4, q4⟩ := uan (enc := fun x : Int => .int .i64 x) (z := 0) (at_ := at_) (b := b) (r := rTag b at_.toNat)
  obtain ⟨v5, p5, e5, q5⟩ := uan (enc := encIM) (z := zIM) (at_ := at_) (b := b) (r := u9u b at_.toNat)
  obtain ⟨v6, p6, e6, q6⟩ := uan (enc := encEX) (z := zEX) (at_ := at_) (b := b) (r := u9s b at_.toNat)
  have a1 := fun K => upd (H := K) (z := z) hb (at_ := at_)
  have a2 := fun K => up3 (H := K) (z := z) hb (at_ := at_)
  have a3 := fun K => uhl (H := K) (z := z) hb (at_ := at_)
  have a4 := fun K => uhz (H := K) (z := z) hb (at_ := at_)
  have a5 := fun K => ug5 (H := K) (z := z) hb (at_ := at_)
  have a6 := fun K => ug2 (H := K) (z := z) hb (at_ := at_)
  have a7 := fun K => uwc (H := K) (z := z) hb (at_ := at_)
  have a8 := fun K => uwv (H := K) (z := z) hb (at_ := at_)
  have a9 := fun K => upp (H := K) (z := z) hb (at_ := at_)
  have aa := fun K => upo (H := K) (z := z) hb (at_ := at_)
  have ab := fun K => up0 (H := K) (z := z) hb (at_ := at_)
  have ac := fun K => uos (H := K) (z := z) hb (at_ := at_)
  simp only [q1, q2, q3, q4, q5, q6] at a1 a2 a3 a4 a5 a6 a7 a8 a9 aa ab ac
  have n1 := fun K => udo (H := K) (uvr (v := v1) (w := v1))
  have n2 := fun K => udo (H := K) (uvp (v := v2) (w := v2))
  have n3 := fun K => udo (H := K) (uwf (v := v3) (w := v3))
  have n5 := fun K => udo (H := K) (uwy (v := v5) (w := v5))
  have n6 := fun K => uv7 (H := K) (uwg (v := v6) (w := v6))
  unfold cs_LT at n1
  unfold cs_TB at n2
  unfold cs_GO at n3
  unfold cs_IM at n5
  unfold cs_EX at n6
  simp only [u26, u3r, u3g, u2r, u7v] at a1 a2 a3 a4 a5 a6 a9 aa ab ac
  rw [u82]
  simp +contextual -dsimp (disch := omega) only [↓goDown, goUp, cr, simprocAttr, a1, a2, a3, a4, a5, a6, a7, a8, a9, aa, ab, ac, n1, n2, n3, n5, n6, uwr, uvi, un_not, utq, bne_self_eq_false]
end Go.Proofs.YthnmienjiangkaaGreatDoor.Pi.Q
