/- What the law rests on, part 6 of 6: a reading of the program's code over told data, and what it comes to. -/
import Derived.Test.YthidcpkcfoldmaaGreatPiS4
set_option linter.unusedVariables false
set_option linter.unusedSimpArgs false
set_option maxRecDepth 100000
namespace Go.Proofs.YthidcpkcfoldmaaGreat.Pi.Q
open Go Go.Proofs.YthidcpkcfoldmaaGreat.Pi
attribute [local congr] ite_congr
variable {c : Nat} {H : Heap} {L : List Box} {b : List UInt8} {z : Bool} {p bad why : Nat} {m0 m1 m2 m3 m4 m5 m6 m7 m8 m9 m10 m11 m12 m13 m14 m15 m16 : PV}
theorem flT_p {a w : Nat} {t : TS} : (flT a w t).p = t.p := by unfold flT; split <;> rfl
theorem pfT_p {a : Nat} {t : TS} : (pfT a t).p = t.p := by unfold pfT; split <;> rfl
theorem fmT_p {a op : Nat} {t : TS} : (fmT a op t).p = t.p := by
  unfold fmT
  split
  · exact flT_p
  · rfl
theorem utk {t : TS} (ht : t.p ≤ b.length) : (opcT b t).2.p ≤ b.length := by
  have h1 : (smT b 255 t).2.p ≤ b.length := smT_le ht
  unfold opcT
  split
  · simp only [fmT_p, flT_p]; exact h1
  · split
    · simp only [fmT_p, pfT_p]; exact upT_le h1
    · simp only [fmT_p]; exact h1
theorem uzp {t : TS} : (opcT b t).1 < 1048576 := by
  have h1 : (smT b 255 t).1 < 256 := smT_lt
  have h2 : (upT b 255 4 (smT b 255 t).2).1 ≤ 255 := upT_lt
  unfold opcT
  split
  · exact (by decide : (253 : Nat) < 1048576)
  · split
    · simp only; omega
    · simp only; omega
theorem v00d (hno : (smT b 255 ⟨p, bad, why⟩).2.why ≠ 0) (hb : b.length < 2 ^ 61) (hc : c < List.length H) : runK c (C u1t [.ptr c 0]) (St H c (.cells [BS z b, .int .i64 p, m0, m1, m2, m3, m4, m5, m6, m7, m8, m9, m10, m11, m12, m13, m14, m15, m16, .int .i64 bad, .int .i64 why]) L) = some (.ok (.int .i64 0) (St H c (.cells [BS z b, .int .i64 ((smT b 255 ⟨p, bad, why⟩).2.p : Nat), m0, m1, m2, m3, m4, m5, m6, m7, m8, m9, m10, m11, m12, m13, m14, m15, m16, .int .i64 ((smT b 255 ⟨p, bad, why⟩).2.bad : Nat), .int .i64 ((smT b 255 ⟨p, bad, why⟩).2.why : Nat)]) L)) := liftT (fun H hc => by
  have hs := fun L => uja (c := c) (H := H) (L := L) (b := b) (z := z) (p := p) (bad := bad) (why := why) (most := 255) (m0 := m0) (m1 := m1) (m2 := m2) (m3 := m3) (m4 := m4) (m5 := m5) (m6 := m6) (m7 := m7) (m8 := m8) (m9 := m9) (m10 := m10) (m11 := m11) (m12 := m12) (m13 := m13) (m14 := m14) (m15 := m15) (m16 := m16) hb hc
  rw [show ((255 : Nat) : Int) = 255 from rfl] at hs
  have sl : (smT b 255 ⟨p, bad, why⟩).1 < 256 := smT_lt
  have hn : ((((smT b 255 ⟨p, bad, why⟩).2.why : Nat) : Int) = 0) = False := eq_false (by omega)
  rw [u6r]
  simp +contextual -dsimp (disch := omega) only [↓kDown, kUp, ↓goDown, goUp, cr, simprocAttr, hs, hn]) hc
theorem iopcS (hok : (smT b 255 ⟨p, bad, why⟩).2.why = 0) (hb : b.length < 2 ^ 61) (hp : p ≤ b.length) (hc : c < List.length H) : runK c (C u1t [.ptr c 0]) (St H c (.cells [BS z b, .int .i64 p, m0, m1, m2, m3, m4, m5, m6, m7, m8, m9, m10, m11, m12, m13, m14, m15, m16, .int .i64 bad, .int .i64 why]) L) = some (.ok (.int .i64 (formN ((opcT b ⟨p, bad, why⟩).1 : Nat) : Nat)) (St H c (.cells [BS z b, .int .i64 ((opcT b ⟨p, bad, why⟩).2.p : Nat), .int .i64 ((opcT b ⟨p, bad, why⟩).1 : Nat), m1, m2, m3, m4, m5, m6, m7, m8, m9, m10, m11, m12, m13, m14, m15, m16, .int .i64 ((opcT b ⟨p, bad, why⟩).2.bad : Nat), .int .i64 ((opcT b ⟨p, bad, why⟩).2.why : Nat)]) L)) := liftT (fun H hc => by
  have hs := fun L => uja (c := c) (H := H) (L := L) (b := b) (z := z) (p := p) (bad := bad) (why := why) (most := 255) (m0 := m0) (m1 := m1) (m2 := m2) (m3 := m3) (m4 := m4) (m5 := m5) (m6 := m6) (m7 := m7) (m8 := m8) (m9 := m9) (m10 := m10) (m11 := m11) (m12 := m12) (m13 := m13) (m14 := m14) (m15 := m15) (m16 := m16) hb hc
  rw [show ((255 : Nat) : Int) = 255 from rfl] at hs
  have sl : (smT b 255 ⟨p, bad, why⟩).1 < 256 := smT_lt
  have s1 : (smT b 255 ⟨p, bad, why⟩).2.p ≤ b.length := smT_le hp
  have hn : ((((smT b 255 ⟨p, bad, why⟩).2.why : Nat) : Int) = 0) = True := eq_true (by omega)
  have ul : (upT b 255 4 (smT b 255 ⟨p, bad, why⟩).2).1 ≤ 255 := upT_lt
  rw [u6r]
  unfold opcT
  by_cases hd : (smT b 255 ⟨p, bad, why⟩).1 = 253
  · have hd' : (((smT b 255 ⟨p, bad, why⟩).1 : Nat) : Int) = 253 := by omega
    have hfl := fun L => ifailS (c := c) (H := H) (L := L) (b := b) (z := z) (p := (smT b 255 ⟨p, bad, why⟩).2.p) (bad := (smT b 255 ⟨p, bad, why⟩).2.bad) (why := (smT b 255 ⟨p, bad, why⟩).2.why) (a := p) (w := 8) (m0 := m0) (m1 := m1) (m2 := m2) (m3 := m3) (m4 := m4) (m5 := m5) (m6 := m6) (m7 := m7) (m8 := m8) (m9 := m9) (m10 := m10) (m11 := m11) (m12 := m12) (m13 := m13) (m14 := m14) (m15 := m15) (m16 := m16) hc
    rw [show ((8 : Nat) : Int) = 8 from rfl] at hfl
    simp only [TS.eta] at hfl
    have he := (fun (op : Nat) (hop : op < 1048576) => ubx (c := c) (H := H) (b := b) (z := z) (p := (smT b 255 ⟨p, bad, why⟩).2.p) (bad := (flT p 8 (smT b 255 ⟨p, bad, why⟩).2).bad) (why := (flT p 8 (smT b 255 ⟨p, bad, why⟩).2).why) (op := op) (a := p) (v2 := .int .i64 0) (m0 := m0) (m1 := m1) (m2 := m2) (m3 := m3) (m4 := m4) (m5 := m5) (m6 := m6) (m7 := m7) (m8 := m8) (m9 := m9) (m10 := m10) (m11 := m11) (m12 := m12) (m13 := m13) (m14 := m14) (m15 := m15) (m16 := m16) hop hb hp hc) 253 (by decide)
    rw [show ((253 : Nat) : Int) = 253 from rfl] at he
    have e1 : (⟨(smT b 255 ⟨p, bad, why⟩).2.p, (flT p 8 (smT b 255 ⟨p, bad, why⟩).2).bad, (flT p 8 (smT b 255 ⟨p, bad, why⟩).2).why⟩ : TS) = flT p 8 (smT b 255 ⟨p, bad, why⟩).2 := by
      rw [← flT_p (a := p) (w := 8) (t := (smT b 255 ⟨p, bad, why⟩).2)]
    rw [e1] at he
    rw [if_pos hd]
    simp +contextual -dsimp (disch := omega) only [↓kDown, kUp, ↓goDown, goUp, cr, simprocAttr, hs, hn, hd', hfl, he] <;> rfl
  · have hd' : ((((smT b 255 ⟨p, bad, why⟩).1 : Nat) : Int) = 253) = False := eq_false (by omega)
    rw [if_neg hd]
    by_cases hq : (smT b 255 ⟨p, bad, why⟩).1 = 251 ∨ (smT b 255 ⟨p, bad, why⟩).1 = 252
    · have hu := fun L => iupToS (c := c) (H := H) (L := L) (b := b) (z := z) (p := (smT b 255 ⟨p, bad, why⟩).2.p) (bad := (smT b 255 ⟨p, bad, why⟩).2.bad) (why := (smT b 255 ⟨p, bad, why⟩).2.why) (most := 255) (e := 4) (m0 := m0) (m1 := m1) (m2 := m2) (m3 := m3) (m4 := m4) (m5 := m5) (m6 := m6) (m7 := m7) (m8 := m8) (m9 := m9) (m10 := m10) (m11 := m11) (m12 := m12) (m13 := m13) (m14 := m14) (m15 := m15) (m16 := m16) (by decide) hb s1 hc
      rw [show ((255 : Nat) : Int) = 255 from rfl, show ((4 : Nat) : Int) = 4 from rfl] at hu
      simp only [TS.eta] at hu
      have h1 := v008 sl
      have h2 := opc_or (k := (upT b 255 4 (smT b 255 ⟨p, bad, why⟩).2).1) sl (by omega)
      have e3 : ((p : Nat) : Int) + 1 = ((p + 1 : Nat) : Int) := by omega
      have hwp : IntKind.i64.wrap ((p + 1 : Nat) : Int) = ((p + 1 : Nat) : Int) := w_i64 (by omega)
      rw [if_pos hq]
      have hqq : ((((smT b 255 ⟨p, bad, why⟩).1 : Nat) : Int) = 251) = True ∨ (((((smT b 255 ⟨p, bad, why⟩).1 : Nat) : Int) = 251) = False ∧ ((((smT b 255 ⟨p, bad, why⟩).1 : Nat) : Int) = 252) = True) := by
        rcases hq with h | h
        · exact .inl (eq_true (by omega))
        · exact .inr ⟨eq_false (by omega), eq_true (by omega)⟩
      by_cases hw4 : (upT b 255 4 (smT b 255 ⟨p, bad, why⟩).2).2.why = 4
      · have hw4' : ((((upT b 255 4 (smT b 255 ⟨p, bad, why⟩).2).2.why : Nat) : Int) = 4) = True := eq_true (by omega)
        by_cases hb1 : (upT b 255 4 (smT b 255 ⟨p, bad, why⟩).2).2.bad = p + 1
        · have hb1' : ((((upT b 255 4 (smT b 255 ⟨p, bad, why⟩).2).2.bad : Nat) : Int) = ((p + 1 : Nat) : Int)) = True := eq_true (by omega)
          have ep : pfT p (upT b 255 4 (smT b 255 ⟨p, bad, why⟩).2).2 = ⟨(upT b 255 4 (smT b 255 ⟨p, bad, why⟩).2).2.p, p, 4⟩ := by unfold pfT; rw [if_pos ⟨hw4, hb1⟩]
          have he := (fun (op : Nat) (hop : op < 1048576) => ubx (c := c) (H := H) (b := b) (z := z) (p := (upT b 255 4 (smT b 255 ⟨p, bad, why⟩).2).2.p) (bad := p) (why := 4) (op := op) (a := p) (v2 := .int .i64 0) (m0 := m0) (m1 := m1) (m2 := m2) (m3 := m3) (m4 := m4) (m5 := m5) (m6 := m6) (m7 := m7) (m8 := m8) (m9 := m9) (m10 := m10) (m11 := m11) (m12 := m12) (m13 := m13) (m14 := m14) (m15 := m15) (m16 := m16) hop hb hp hc) ((smT b 255 ⟨p, bad, why⟩).1 * 256 + (upT b 255 4 (smT b 255 ⟨p, bad, why⟩).2).1) (by omega)
          rw [hw4] at hu
          rw [ep]
          rw [show ((4 : Nat) : Int) = 4 from rfl] at he hu
          rcases hqq with hqa | ⟨hqa, hqb⟩
          · simp +contextual -dsimp (disch := omega) only [↓kDown, kUp, ↓goDown, goUp, cr, simprocAttr, hs, hn, hd', hqa, u89, h1, hu, run_or, h2, e3, hwp, hb1', he]
          · simp +contextual -dsimp (disch := omega) only [↓kDown, kUp, ↓goDown, goUp, cr, simprocAttr, hs, hn, hd', hqa, hqb, u89, h1, hu, run_or, h2, e3, hwp, hb1', he]
        · have hb1' : ((((upT b 255 4 (smT b 255 ⟨p, bad, why⟩).2).2.bad : Nat) : Int) = ((p + 1 : Nat) : Int)) = False := eq_false (by omega)
          have ep : pfT p (upT b 255 4 (smT b 255 ⟨p, bad, why⟩).2).2 = (upT b 255 4 (smT b 255 ⟨p, bad, why⟩).2).2 := by unfold pfT; rw [if_neg (fun h => hb1 h.2)]
          have he := (fun (op : Nat) (hop : op < 1048576) => ubx (c := c) (H := H) (b := b) (z := z) (p := (upT b 255 4 (smT b 255 ⟨p, bad, why⟩).2).2.p) (bad := (upT b 255 4 (smT b 255 ⟨p, bad, why⟩).2).2.bad) (why := (upT b 255 4 (smT b 255 ⟨p, bad, why⟩).2).2.why) (op := op) (a := p) (v2 := .int .i64 0) (m0 := m0) (m1 := m1) (m2 := m2) (m3 := m3) (m4 := m4) (m5 := m5) (m6 := m6) (m7 := m7) (m8 := m8) (m9 := m9) (m10 := m10) (m11 := m11) (m12 := m12) (m13 := m13) (m14 := m14) (m15 := m15) (m16 := m16) hop hb hp hc) ((smT b 255 ⟨p, bad, why⟩).1 * 256 + (upT b 255 4 (smT b 255 ⟨p, bad, why⟩).2).1) (by omega)
          simp only [TS.eta] at he
          rw [ep]
          rcases hqq with hqa | ⟨hqa, hqb⟩
          · simp +contextual -dsimp (disch := omega) only [↓kDown, kUp, ↓goDown, goUp, cr, simprocAttr, hs, hn, hd', hqa, u89, h1, hu, run_or, h2, hw4', e3, hwp, hb1', he]
          · simp +contextual -dsimp (disch := omega) only [↓kDown, kUp, ↓goDown, goUp, cr, simprocAttr, hs, hn, hd', hqa, hqb, u89, h1, hu, run_or, h2, hw4', e3, hwp, hb1', he]
      · have hw4' : ((((upT b 255 4 (smT b 255 ⟨p, bad, why⟩).2).2.why : Nat) : Int) = 4) = False := eq_false (by omega)
        have ep : pfT p (upT b 255 4 (smT b 255 ⟨p, bad, why⟩).2).2 = (upT b 255 4 (smT b 255 ⟨p, bad, why⟩).2).2 := by unfold pfT; rw [if_neg (fun h => hw4 h.1)]
        have he := (fun (op : Nat) (hop : op < 1048576) => ubx (c := c) (H := H) (b := b) (z := z) (p := (upT b 255 4 (smT b 255 ⟨p, bad, why⟩).2).2.p) (bad := (upT b 255 4 (smT b 255 ⟨p, bad, why⟩).2).2.bad) (why := (upT b 255 4 (smT b 255 ⟨p, bad, why⟩).2).2.why) (op := op) (a := p) (v2 := .int .i64 0) (m0 := m0) (m1 := m1) (m2 := m2) (m3 := m3) (m4 := m4) (m5 := m5) (m6 := m6) (m7 := m7) (m8 := m8) (m9 := m9) (m10 := m10) (m11 := m11) (m12 := m12) (m13 := m13) (m14 := m14) (m15 := m15) (m16 := m16) hop hb hp hc) ((smT b 255 ⟨p, bad, why⟩).1 * 256 + (upT b 255 4 (smT b 255 ⟨p, bad, why⟩).2).1) (by omega)
        simp only [TS.eta] at he
        rw [ep]
        rcases hqq with hqa | ⟨hqa, hqb⟩
        · simp +contextual -dsimp (disch := omega) only [↓kDown, kUp, ↓goDown, goUp, cr, simprocAttr, hs, hn, hd', hqa, u89, h1, hu, run_or, h2, hw4', he]
        · simp +contextual -dsimp (disch := omega) only [↓kDown, kUp, ↓goDown, goUp, cr, simprocAttr, hs, hn, hd', hqa, hqb, u89, h1, hu, run_or, h2, hw4', he]
    · have hqa : ((((smT b 255 ⟨p, bad, why⟩).1 : Nat) : Int) = 251) = False := eq_false (by omega)
      have hqb : ((((smT b 255 ⟨p, bad, why⟩).1 : Nat) : Int) = 252) = False := eq_false (by omega)
      have he := (fun (op : Nat) (hop : op < 1048576) => ubx (c := c) (H := H) (b := b) (z := z) (p := (smT b 255 ⟨p, bad, why⟩).2.p) (bad := (smT b 255 ⟨p, bad, why⟩).2.bad) (why := (smT b 255 ⟨p, bad, why⟩).2.why) (op := op) (a := p) (v2 := .int .i64 0) (m0 := m0) (m1 := m1) (m2 := m2) (m3 := m3) (m4 := m4) (m5 := m5) (m6 := m6) (m7 := m7) (m8 := m8) (m9 := m9) (m10 := m10) (m11 := m11) (m12 := m12) (m13 := m13) (m14 := m14) (m15 := m15) (m16 := m16) hop hb hp hc) (smT b 255 ⟨p, bad, why⟩).1 (by omega)
      simp only [TS.eta] at he
      rw [if_neg hq]
      simp +contextual -dsimp (disch := omega) only [↓kDown, kUp, ↓goDown, goUp, cr, simprocAttr, hs, hn, hd', hqa, hqb, he]) hc
end Go.Proofs.YthidcpkcfoldmaaGreat.Pi.Q
namespace Go.Proofs.YthidcpkcfoldmaaGreat.Pi.Q
open Go Go.Proofs.YthidcpkcfoldmaaGreat.Pi
attribute [local congr] ite_congr
variable {c : Nat} {H : Heap} {L : List Box} {b : List UInt8} {z : Bool} {p bad why op : Nat}
def imm (k op : Nat) (b : List UInt8) (t : TS) : List PV × TS :=
  match k with
  | 2 => ([.int .i64 (op : Nat), .int .u32 0, .int .u32 0, .int .u64 0, .int .u32 0, .int .u32 0, .int .u64 0, .int .i64 (tk (⟨0, ⟨0, false, 0⟩⟩ : BK) (rBlock b) t).1.ty, .int .i64 (tk (⟨0, ⟨0, false, 0⟩⟩ : BK) (rBlock b) t).1.res.num, .bool (tk (⟨0, ⟨0, false, 0⟩⟩ : BK) (rBlock b) t).1.res.nul, .int .i64 (tk (⟨0, ⟨0, false, 0⟩⟩ : BK) (rBlock b) t).1.res.heap, .slice false true 0 [], .slice false true 0 [], .bool false, .slice false true 0 [], .slice false true 0 [], .slice false true 0 []], (tk (⟨0, ⟨0, false, 0⟩⟩ : BK) (rBlock b) t).2)
  | 3 => ([.int .i64 (op : Nat), .int .u32 0, .int .u32 0, .int .u64 0, .int .u32 0, .int .u32 0, .int .u64 0, .int .i64 (tk (⟨0, ⟨0, false, 0⟩⟩ : BK) (rBlock b) t).1.ty, .int .i64 (tk (⟨0, ⟨0, false, 0⟩⟩ : BK) (rBlock b) t).1.res.num, .bool (tk (⟨0, ⟨0, false, 0⟩⟩ : BK) (rBlock b) t).1.res.nul, .int .i64 (tk (⟨0, ⟨0, false, 0⟩⟩ : BK) (rBlock b) t).1.res.heap, .slice false true 0 [], .slice false true 0 [], .bool false, .slice false true 0 [], .slice false true 0 [], accP 3 ((repC (clT b) (upT b 65536 2 (tk (⟨0, ⟨0, false, 0⟩⟩ : BK) (rBlock b) t).2).1 [] (upT b 65536 2 (tk (⟨0, ⟨0, false, 0⟩⟩ : BK) (rBlock b) t).2).2).1.map encCN)], (repC (clT b) (upT b 65536 2 (tk (⟨0, ⟨0, false, 0⟩⟩ : BK) (rBlock b) t).2).1 [] (upT b 65536 2 (tk (⟨0, ⟨0, false, 0⟩⟩ : BK) (rBlock b) t).2).2).2)
  | 4 => ([.int .i64 (op : Nat), .int .u32 ((tk (0 : Nat) (rdU b 32 b.length) t).1 : Nat), .int .u32 0, .int .u64 0, .int .u32 0, .int .u32 0, .int .u64 0, .int .i64 0, .int .i64 0, .bool false, .int .i64 0, .slice false true 0 [], .slice false true 0 [], .bool false, .slice false true 0 [], .slice false true 0 [], .slice false true 0 []], (tk (0 : Nat) (rdU b 32 b.length) t).2)
  | 5 => ([.int .i64 (op : Nat), .int .u32 ((tk (0 : Nat) (rdU b 32 b.length) t).1 : Nat), .int .u32 ((tk (0 : Nat) (rdU b 32 b.length) (tk (0 : Nat) (rdU b 32 b.length) t).2).1 : Nat), .int .u64 0, .int .u32 0, .int .u32 0, .int .u64 0, .int .i64 0, .int .i64 0, .bool false, .int .i64 0, .slice false true 0 [], .slice false true 0 [], .bool false, .slice false true 0 [], .slice false true 0 [], .slice false true 0 []], (tk (0 : Nat) (rdU b 32 b.length) (tk (0 : Nat) (rdU b 32 b.length) t).2).2)
  | 6 => ([.int .i64 (op : Nat), tabM b (upT b 65536 2 t).1 [] (upT b 65536 2 t).2 (.int .u32 0), .int .u32 0, .int .u64 0, .int .u32 0, .int .u32 0, .int .u64 0, .int .i64 0, .int .i64 0, .bool false, .int .i64 0, .slice false true 0 [], .slice false true 0 [], .bool false, accP 1 ((labR b (upT b 65536 2 t).1 [] (upT b 65536 2 t).2).1.1.map encN), .slice false true 0 [], .slice false true 0 []], (tabT b (upT b 65536 2 t).1 [] (upT b 65536 2 t).2))
  | 7 => ([.int .i64 (op : Nat), .int .u32 0, .int .u32 0, .int .u64 0, .int .u32 0, .int .u32 0, .int .u64 0, .int .i64 0, .int .i64 0, .bool false, .int .i64 0, .slice false true 0 [], .slice false true 0 [], .bool false, .slice false true 0 [], accP 3 ((valR b (upT b 1000 2 t).1 [] (upT b 1000 2 t).2).1.1.map encV), .slice false true 0 []], (valR b (upT b 1000 2 t).1 [] (upT b 1000 2 t).2).1.2)
  | 8 => ([.int .i64 (op : Nat), .int .u32 0, .int .u32 0, .int .u64 0, .int .u32 ((upT b 127 4 t).1 % 64 : Nat), memM b t (.int .u32 0), .int .u64 ((tk (0 : Nat) (rdU b 64 b.length) (memT b t)).1 : Nat), .int .i64 0, .int .i64 0, .bool false, .int .i64 0, .slice false true 0 [], .slice false true 0 [], .bool false, .slice false true 0 [], .slice false true 0 [], .slice false true 0 []], (tk (0 : Nat) (rdU b 64 b.length) (memT b t)).2)
  | 9 => ([.int .i64 (op : Nat), .int .u32 0, .int .u32 0, .int .u64 (IntKind.u64.wrap (IntKind.u32.wrap (IntKind.i32.wrap (tk (0 : Int) (rdS b 32 b.length) t).1))), .int .u32 0, .int .u32 0, .int .u64 0, .int .i64 0, .int .i64 0, .bool false, .int .i64 0, .slice false true 0 [], .slice false true 0 [], .bool false, .slice false true 0 [], .slice false true 0 [], .slice false true 0 []], (tk (0 : Int) (rdS b 32 b.length) t).2)
  | 10 => ([.int .i64 (op : Nat), .int .u32 0, .int .u32 0, .int .u64 (IntKind.u64.wrap (tk (0 : Int) (rdS b 64 b.length) t).1), .int .u32 0, .int .u32 0, .int .u64 0, .int .i64 0, .int .i64 0, .bool false, .int .i64 0, .slice false true 0 [], .slice false true 0 [], .bool false, .slice false true 0 [], .slice false true 0 [], .slice false true 0 []], (tk (0 : Int) (rdS b 64 b.length) t).2)
  | 11 => ([.int .i64 (op : Nat), .int .u32 0, .int .u32 0, .int .u64 ((tk (0 : Nat) (rdF b 4 b.length) t).1 : Nat), .int .u32 0, .int .u32 0, .int .u64 0, .int .i64 0, .int .i64 0, .bool false, .int .i64 0, .slice false true 0 [], .slice false true 0 [], .bool false, .slice false true 0 [], .slice false true 0 [], .slice false true 0 []], (tk (0 : Nat) (rdF b 4 b.length) t).2)
  | 12 => ([.int .i64 (op : Nat), .int .u32 0, .int .u32 0, .int .u64 ((tk (0 : Nat) (rdF b 8 b.length) t).1 : Nat), .int .u32 0, .int .u32 0, .int .u64 0, .int .i64 0, .int .i64 0, .bool false, .int .i64 0, .slice false true 0 [], .slice false true 0 [], .bool false, .slice false true 0 [], .slice false true 0 [], .slice false true 0 []], (tk (0 : Nat) (rdF b 8 b.length) t).2)
  | 13 => ([.int .i64 (op : Nat), .int .u32 0, .int .u32 0, .int .u64 0, .int .u32 0, .int .u32 0, .int .u64 0, .int .i64 0, .int .i64 0, .bool false, .int .i64 0, .slice false true 0 [], .slice false true 0 [], .bool false, .slice false true 0 [], accP 3 ([(⟨5, true, (tk (0 : Int) (rHeap b) t).1⟩ : VT)].map encV), .slice false true 0 []], (tk (0 : Int) (rHeap b) t).2)
  | 14 => ([.int .i64 (op : Nat), .int .u32 0, .int .u32 0, .int .u64 0, .int .u32 0, .int .u32 0, .int .u64 0, .int .i64 0, .int .i64 0, .bool false, .int .i64 0, .slice false true 0 [], .slice false true 0 [], .bool false, .slice false true 0 [], accP 3 ([(⟨5, ((op : Int) % 2 == 1), (tk (0 : Int) (rHeap b) t).1⟩ : VT)].map encV), .slice false true 0 []], (tk (0 : Int) (rHeap b) t).2)
  | 15 => ([.int .i64 (op : Nat), .int .u32 ((tk (0 : Nat) (rdU b 32 b.length) (smT b 3 t).2).1 : Nat), .int .u32 0, .int .u64 0, .int .u32 0, .int .u32 0, .int .u64 0, .int .i64 0, .int .i64 0, .bool false, .int .i64 0, .slice false true 0 [], .slice false true 0 [], .bool false, .slice false true 0 [], accP 3 ([(⟨5, ((smT b 3 t).1 % 2 != 0), (tk (0 : Int) (rHeap b) (tk (0 : Nat) (rdU b 32 b.length) (smT b 3 t).2).2).1⟩ : VT), (⟨5, ((smT b 3 t).1 / 2 % 2 * 2 != 0), (tk (0 : Int) (rHeap b) (tk (0 : Int) (rHeap b) (tk (0 : Nat) (rdU b 32 b.length) (smT b 3 t).2).2).2).1⟩ : VT)].map encV), .slice false true 0 []], (tk (0 : Int) (rHeap b) (tk (0 : Int) (rHeap b) (tk (0 : Nat) (rdU b 32 b.length) (smT b 3 t).2).2).2).2)
  | 16 => ([.int .i64 (op : Nat), .int .u32 ((tk (0 : Nat) (rdU b 32 b.length) t).1 : Nat), .int .u32 0, .int .u64 ((tk (0 : Nat) (rdU b 32 b.length) (tk (0 : Nat) (rdU b 32 b.length) t).2).1 : Nat), .int .u32 0, .int .u32 0, .int .u64 0, .int .i64 0, .int .i64 0, .bool false, .int .i64 0, .slice false true 0 [], .slice false true 0 [], .bool false, .slice false true 0 [], .slice false true 0 [], .slice false true 0 []], (tk (0 : Nat) (rdU b 32 b.length) (tk (0 : Nat) (rdU b 32 b.length) t).2).2)
  | _ => ([.int .i64 (op : Nat), .int .u32 0, .int .u32 0, .int .u64 0, .int .u32 0, .int .u32 0, .int .u64 0, .int .i64 0, .int .i64 0, .bool false, .int .i64 0, .slice false true 0 [], .slice false true 0 [], .bool false, .slice false true 0 [], .slice false true 0 [], .slice false true 0 []], t)
def rdBox (z : Bool) (b : List UInt8) (r : List PV × TS) : Box := .cells ([BS z b, .int .i64 r.2.p] ++ (r.1 ++ [.int .i64 r.2.bad, .int .i64 r.2.why]))
theorem imm_2 (hb : b.length < 2 ^ 61) (hp : p ≤ b.length) (hc : c < List.length H) : runK c (C u24 [.ptr c 0]) (St H c (.cells [BS z b, .int .i64 p, .int .i64 (op : Nat), .int .u32 0, .int .u32 0, .int .u64 0, .int .u32 0, .int .u32 0, .int .u64 0, .int .i64 0, .int .i64 0, .bool false, .int .i64 0, .slice false true 0 [], .slice false true 0 [], .bool false, .slice false true 0 [], .slice false true 0 [], .slice false true 0 [], .int .i64 bad, .int .i64 why]) L) = some (.ok (.tup []) (St H c (rdBox z b (imm 2 op b ⟨p, bad, why⟩)) L)) :=
  uuf (c := c) (H := H) (L := L) (b := b) (z := z) (p := p) (bad := bad) (why := why) (m0 := .int .i64 (op : Nat)) (m1 := .int .u32 0) (m2 := .int .u32 0) (m3 := .int .u64 0) (m4 := .int .u32 0) (m5 := .int .u32 0) (m6 := .int .u64 0) (m7 := .int .i64 0) (m8 := .int .i64 0) (m9 := .bool false) (m10 := .int .i64 0) (m11 := .slice false true 0 []) (m12 := .slice false true 0 []) (m13 := .bool false) (m14 := .slice false true 0 []) (m15 := .slice false true 0 []) (m16 := .slice false true 0 [])  hb hp hc
theorem imm_3 (hb : b.length < 2 ^ 61) (hp : p ≤ b.length) (hc : c < List.length H) : runK c (C u1x [.ptr c 0]) (St H c (.cells [BS z b, .int .i64 p, .int .i64 (op : Nat), .int .u32 0, .int .u32 0, .int .u64 0, .int .u32 0, .int .u32 0, .int .u64 0, .int .i64 0, .int .i64 0, .bool false, .int .i64 0, .slice false true 0 [], .slice false true 0 [], .bool false, .slice false true 0 [], .slice false true 0 [], .slice false true 0 [], .int .i64 bad, .int .i64 why]) L) = some (.ok (.tup []) (St H c (rdBox z b (imm 3 op b ⟨p, bad, why⟩)) L)) :=
  itryS (c := c) (H := H) (L := L) (b := b) (z := z) (p := p) (bad := bad) (why := why) (m0 := .int .i64 (op : Nat)) (m1 := .int .u32 0) (m2 := .int .u32 0) (m3 := .int .u64 0) (m4 := .int .u32 0) (m5 := .int .u32 0) (m6 := .int .u64 0) (m7 := .int .i64 0) (m8 := .int .i64 0) (m9 := .bool false) (m10 := .int .i64 0) (m11 := .slice false true 0 []) (m12 := .slice false true 0 []) (m13 := .bool false) (m14 := .slice false true 0 []) (m15 := .slice false true 0 []) (l := []) (by decide) hb hp hc
theorem imm_4 (hb : b.length < 2 ^ 61) (hp : p ≤ b.length) (hc : c < List.length H) : runK c (C u2y [.ptr c 0]) (St H c (.cells [BS z b, .int .i64 p, .int .i64 (op : Nat), .int .u32 0, .int .u32 0, .int .u64 0, .int .u32 0, .int .u32 0, .int .u64 0, .int .i64 0, .int .i64 0, .bool false, .int .i64 0, .slice false true 0 [], .slice false true 0 [], .bool false, .slice false true 0 [], .slice false true 0 [], .slice false true 0 [], .int .i64 bad, .int .i64 why]) L) = some (.ok (.tup []) (St H c (rdBox z b (imm 4 op b ⟨p, bad, why⟩)) L)) :=
  ixS (c := c) (H := H) (L := L) (b := b) (z := z) (p := p) (bad := bad) (why := why) (m0 := .int .i64 (op : Nat)) (m1 := .int .u32 0) (m2 := .int .u32 0) (m3 := .int .u64 0) (m4 := .int .u32 0) (m5 := .int .u32 0) (m6 := .int .u64 0) (m7 := .int .i64 0) (m8 := .int .i64 0) (m9 := .bool false) (m10 := .int .i64 0) (m11 := .slice false true 0 []) (m12 := .slice false true 0 []) (m13 := .bool false) (m14 := .slice false true 0 []) (m15 := .slice false true 0 []) (m16 := .slice false true 0 [])  hb hp hc
theorem imm_5 (hb : b.length < 2 ^ 61) (hp : p ≤ b.length) (hc : c < List.length H) : runK c (C u4a [.ptr c 0]) (St H c (.cells [BS z b, .int .i64 p, .int .i64 (op : Nat), .int .u32 0, .int .u32 0, .int .u64 0, .int .u32 0, .int .u32 0, .int .u64 0, .int .i64 0, .int .i64 0, .bool false, .int .i64 0, .slice false true 0 [], .slice false true 0 [], .bool false, .slice false true 0 [], .slice false true 0 [], .slice false true 0 [], .int .i64 bad, .int .i64 why]) L) = some (.ok (.tup []) (St H c (rdBox z b (imm 5 op b ⟨p, bad, why⟩)) L)) :=
  ixyS (c := c) (H := H) (L := L) (b := b) (z := z) (p := p) (bad := bad) (why := why) (m0 := .int .i64 (op : Nat)) (m1 := .int .u32 0) (m2 := .int .u32 0) (m3 := .int .u64 0) (m4 := .int .u32 0) (m5 := .int .u32 0) (m6 := .int .u64 0) (m7 := .int .i64 0) (m8 := .int .i64 0) (m9 := .bool false) (m10 := .int .i64 0) (m11 := .slice false true 0 []) (m12 := .slice false true 0 []) (m13 := .bool false) (m14 := .slice false true 0 []) (m15 := .slice false true 0 []) (m16 := .slice false true 0 [])  hb hp hc
theorem imm_6 (hb : b.length < 2 ^ 61) (hp : p ≤ b.length) (hc : c < List.length H) : runK c (C u23 [.ptr c 0]) (St H c (.cells [BS z b, .int .i64 p, .int .i64 (op : Nat), .int .u32 0, .int .u32 0, .int .u64 0, .int .u32 0, .int .u32 0, .int .u64 0, .int .i64 0, .int .i64 0, .bool false, .int .i64 0, .slice false true 0 [], .slice false true 0 [], .bool false, .slice false true 0 [], .slice false true 0 [], .slice false true 0 [], .int .i64 bad, .int .i64 why]) L) = some (.ok (.tup []) (St H c (rdBox z b (imm 6 op b ⟨p, bad, why⟩)) L)) :=
  uzc (c := c) (H := H) (L := L) (b := b) (z := z) (p := p) (bad := bad) (why := why) (m0 := .int .i64 (op : Nat)) (m1 := .int .u32 0) (m2 := .int .u32 0) (m3 := .int .u64 0) (m4 := .int .u32 0) (m5 := .int .u32 0) (m6 := .int .u64 0) (m7 := .int .i64 0) (m8 := .int .i64 0) (m9 := .bool false) (m10 := .int .i64 0) (m11 := .slice false true 0 []) (m12 := .slice false true 0 []) (m13 := .bool false) (m15 := .slice false true 0 []) (m16 := .slice false true 0 []) (la := []) (by decide) hb hp hc
theorem imm_7 (hb : b.length < 2 ^ 61) (hp : p ≤ b.length) (hc : c < List.length H) : runK c (C u1r [.ptr c 0]) (St H c (.cells [BS z b, .int .i64 p, .int .i64 (op : Nat), .int .u32 0, .int .u32 0, .int .u64 0, .int .u32 0, .int .u32 0, .int .u64 0, .int .i64 0, .int .i64 0, .bool false, .int .i64 0, .slice false true 0 [], .slice false true 0 [], .bool false, .slice false true 0 [], .slice false true 0 [], .slice false true 0 [], .int .i64 bad, .int .i64 why]) L) = some (.ok (.tup []) (St H c (rdBox z b (imm 7 op b ⟨p, bad, why⟩)) L)) :=
  uwp (c := c) (H := H) (L := L) (b := b) (z := z) (p := p) (bad := bad) (why := why) (m0 := .int .i64 (op : Nat)) (m1 := .int .u32 0) (m2 := .int .u32 0) (m3 := .int .u64 0) (m4 := .int .u32 0) (m5 := .int .u32 0) (m6 := .int .u64 0) (m7 := .int .i64 0) (m8 := .int .i64 0) (m9 := .bool false) (m10 := .int .i64 0) (m11 := .slice false true 0 []) (m12 := .slice false true 0 []) (m13 := .bool false) (m14 := .slice false true 0 []) (m16 := .slice false true 0 []) (l := []) (by decide) hb hp hc
theorem imm_8 (hb : b.length < 2 ^ 61) (hp : p ≤ b.length) (hc : c < List.length H) : runK c (C u2n [.ptr c 0]) (St H c (.cells [BS z b, .int .i64 p, .int .i64 (op : Nat), .int .u32 0, .int .u32 0, .int .u64 0, .int .u32 0, .int .u32 0, .int .u64 0, .int .i64 0, .int .i64 0, .bool false, .int .i64 0, .slice false true 0 [], .slice false true 0 [], .bool false, .slice false true 0 [], .slice false true 0 [], .slice false true 0 [], .int .i64 bad, .int .i64 why]) L) = some (.ok (.tup []) (St H c (rdBox z b (imm 8 op b ⟨p, bad, why⟩)) L)) :=
  imemS (c := c) (H := H) (L := L) (b := b) (z := z) (p := p) (bad := bad) (why := why) (m0 := .int .i64 (op : Nat)) (m1 := .int .u32 0) (m2 := .int .u32 0) (m3 := .int .u64 0) (m4 := .int .u32 0) (m5 := .int .u32 0) (m6 := .int .u64 0) (m7 := .int .i64 0) (m8 := .int .i64 0) (m9 := .bool false) (m10 := .int .i64 0) (m11 := .slice false true 0 []) (m12 := .slice false true 0 []) (m13 := .bool false) (m14 := .slice false true 0 []) (m15 := .slice false true 0 []) (m16 := .slice false true 0 [])  hb hp hc
theorem imm_9 (hb : b.length < 2 ^ 61) (hp : p ≤ b.length) (hc : c < List.length H) : runK c (C u3v [.ptr c 0]) (St H c (.cells [BS z b, .int .i64 p, .int .i64 (op : Nat), .int .u32 0, .int .u32 0, .int .u64 0, .int .u32 0, .int .u32 0, .int .u64 0, .int .i64 0, .int .i64 0, .bool false, .int .i64 0, .slice false true 0 [], .slice false true 0 [], .bool false, .slice false true 0 [], .slice false true 0 [], .slice false true 0 [], .int .i64 bad, .int .i64 why]) L) = some (.ok (.tup []) (St H c (rdBox z b (imm 9 op b ⟨p, bad, why⟩)) L)) :=
  ii32S (c := c) (H := H) (L := L) (b := b) (z := z) (p := p) (bad := bad) (why := why) (m0 := .int .i64 (op : Nat)) (m1 := .int .u32 0) (m2 := .int .u32 0) (m3 := .int .u64 0) (m4 := .int .u32 0) (m5 := .int .u32 0) (m6 := .int .u64 0) (m7 := .int .i64 0) (m8 := .int .i64 0) (m9 := .bool false) (m10 := .int .i64 0) (m11 := .slice false true 0 []) (m12 := .slice false true 0 []) (m13 := .bool false) (m14 := .slice false true 0 []) (m15 := .slice false true 0 []) (m16 := .slice false true 0 [])  hb hp hc
theorem imm_10 (hb : b.length < 2 ^ 61) (hp : p ≤ b.length) (hc : c < List.length H) : runK c (C u3u [.ptr c 0]) (St H c (.cells [BS z b, .int .i64 p, .int .i64 (op : Nat), .int .u32 0, .int .u32 0, .int .u64 0, .int .u32 0, .int .u32 0, .int .u64 0, .int .i64 0, .int .i64 0, .bool false, .int .i64 0, .slice false true 0 [], .slice false true 0 [], .bool false, .slice false true 0 [], .slice false true 0 [], .slice false true 0 [], .int .i64 bad, .int .i64 why]) L) = some (.ok (.tup []) (St H c (rdBox z b (imm 10 op b ⟨p, bad, why⟩)) L)) :=
  ii64S (c := c) (H := H) (L := L) (b := b) (z := z) (p := p) (bad := bad) (why := why) (m0 := .int .i64 (op : Nat)) (m1 := .int .u32 0) (m2 := .int .u32 0) (m3 := .int .u64 0) (m4 := .int .u32 0) (m5 := .int .u32 0) (m6 := .int .u64 0) (m7 := .int .i64 0) (m8 := .int .i64 0) (m9 := .bool false) (m10 := .int .i64 0) (m11 := .slice false true 0 []) (m12 := .slice false true 0 []) (m13 := .bool false) (m14 := .slice false true 0 []) (m15 := .slice false true 0 []) (m16 := .slice false true 0 [])  hb hp hc
theorem imm_11 (hb : b.length < 2 ^ 61) (hp : p ≤ b.length) (hc : c < List.length H) : runK c (C u3r [.ptr c 0]) (St H c (.cells [BS z b, .int .i64 p, .int .i64 (op : Nat), .int .u32 0, .int .u32 0, .int .u64 0, .int .u32 0, .int .u32 0, .int .u64 0, .int .i64 0, .int .i64 0, .bool false, .int .i64 0, .slice false true 0 [], .slice false true 0 [], .bool false, .slice false true 0 [], .slice false true 0 [], .slice false true 0 [], .int .i64 bad, .int .i64 why]) L) = some (.ok (.tup []) (St H c (rdBox z b (imm 11 op b ⟨p, bad, why⟩)) L)) :=
  if32S (c := c) (H := H) (L := L) (b := b) (z := z) (p := p) (bad := bad) (why := why) (m0 := .int .i64 (op : Nat)) (m1 := .int .u32 0) (m2 := .int .u32 0) (m3 := .int .u64 0) (m4 := .int .u32 0) (m5 := .int .u32 0) (m6 := .int .u64 0) (m7 := .int .i64 0) (m8 := .int .i64 0) (m9 := .bool false) (m10 := .int .i64 0) (m11 := .slice false true 0 []) (m12 := .slice false true 0 []) (m13 := .bool false) (m14 := .slice false true 0 []) (m15 := .slice false true 0 []) (m16 := .slice false true 0 [])  hb hp hc
theorem imm_12 (hb : b.length < 2 ^ 61) (hp : p ≤ b.length) (hc : c < List.length H) : runK c (C u3s [.ptr c 0]) (St H c (.cells [BS z b, .int .i64 p, .int .i64 (op : Nat), .int .u32 0, .int .u32 0, .int .u64 0, .int .u32 0, .int .u32 0, .int .u64 0, .int .i64 0, .int .i64 0, .bool false, .int .i64 0, .slice false true 0 [], .slice false true 0 [], .bool false, .slice false true 0 [], .slice false true 0 [], .slice false true 0 [], .int .i64 bad, .int .i64 why]) L) = some (.ok (.tup []) (St H c (rdBox z b (imm 12 op b ⟨p, bad, why⟩)) L)) :=
  if64S (c := c) (H := H) (L := L) (b := b) (z := z) (p := p) (bad := bad) (why := why) (m0 := .int .i64 (op : Nat)) (m1 := .int .u32 0) (m2 := .int .u32 0) (m3 := .int .u64 0) (m4 := .int .u32 0) (m5 := .int .u32 0) (m6 := .int .u64 0) (m7 := .int .i64 0) (m8 := .int .i64 0) (m9 := .bool false) (m10 := .int .i64 0) (m11 := .slice false true 0 []) (m12 := .slice false true 0 []) (m13 := .bool false) (m14 := .slice false true 0 []) (m15 := .slice false true 0 []) (m16 := .slice false true 0 [])  hb hp hc
theorem imm_13 (hb : b.length < 2 ^ 61) (hp : p ≤ b.length) (hc : c < List.length H) : runK c (C u36 [.ptr c 0]) (St H c (.cells [BS z b, .int .i64 p, .int .i64 (op : Nat), .int .u32 0, .int .u32 0, .int .u64 0, .int .u32 0, .int .u32 0, .int .u64 0, .int .i64 0, .int .i64 0, .bool false, .int .i64 0, .slice false true 0 [], .slice false true 0 [], .bool false, .slice false true 0 [], .slice false true 0 [], .slice false true 0 [], .int .i64 bad, .int .i64 why]) L) = some (.ok (.tup []) (St H c (rdBox z b (imm 13 op b ⟨p, bad, why⟩)) L)) :=
  iheapS (c := c) (H := H) (L := L) (b := b) (z := z) (p := p) (bad := bad) (why := why) (m0 := .int .i64 (op : Nat)) (m1 := .int .u32 0) (m2 := .int .u32 0) (m3 := .int .u64 0) (m4 := .int .u32 0) (m5 := .int .u32 0) (m6 := .int .u64 0) (m7 := .int .i64 0) (m8 := .int .i64 0) (m9 := .bool false) (m10 := .int .i64 0) (m11 := .slice false true 0 []) (m12 := .slice false true 0 []) (m13 := .bool false) (m14 := .slice false true 0 []) (m16 := .slice false true 0 []) (l := []) (by decide) hb hp hc
theorem imm_14 (hb : b.length < 2 ^ 61) (hp : p ≤ b.length) (hc : c < List.length H) : runK c (C u37 [.ptr c 0]) (St H c (.cells [BS z b, .int .i64 p, .int .i64 (op : Nat), .int .u32 0, .int .u32 0, .int .u64 0, .int .u32 0, .int .u32 0, .int .u64 0, .int .i64 0, .int .i64 0, .bool false, .int .i64 0, .slice false true 0 [], .slice false true 0 [], .bool false, .slice false true 0 [], .slice false true 0 [], .slice false true 0 [], .int .i64 bad, .int .i64 why]) L) = some (.ok (.tup []) (St H c (rdBox z b (imm 14 op b ⟨p, bad, why⟩)) L)) :=
  icastS (c := c) (H := H) (L := L) (b := b) (z := z) (p := p) (bad := bad) (why := why) (m1 := .int .u32 0) (m2 := .int .u32 0) (m3 := .int .u64 0) (m4 := .int .u32 0) (m5 := .int .u32 0) (m6 := .int .u64 0) (m7 := .int .i64 0) (m8 := .int .i64 0) (m9 := .bool false) (m10 := .int .i64 0) (m11 := .slice false true 0 []) (m12 := .slice false true 0 []) (m13 := .bool false) (m14 := .slice false true 0 []) (m16 := .slice false true 0 []) (op := (op : Int)) (l := []) (by decide) hb hp hc
theorem imm_15 (hb : b.length < 2 ^ 61) (hp : p ≤ b.length) (hc : c < List.length H) : runK c (C u2l [.ptr c 0]) (St H c (.cells [BS z b, .int .i64 p, .int .i64 (op : Nat), .int .u32 0, .int .u32 0, .int .u64 0, .int .u32 0, .int .u32 0, .int .u64 0, .int .i64 0, .int .i64 0, .bool false, .int .i64 0, .slice false true 0 [], .slice false true 0 [], .bool false, .slice false true 0 [], .slice false true 0 [], .slice false true 0 [], .int .i64 bad, .int .i64 why]) L) = some (.ok (.tup []) (St H c (rdBox z b (imm 15 op b ⟨p, bad, why⟩)) L)) :=
  uwv (c := c) (H := H) (L := L) (b := b) (z := z) (p := p) (bad := bad) (why := why) (m0 := .int .i64 (op : Nat)) (m1 := .int .u32 0) (m2 := .int .u32 0) (m3 := .int .u64 0) (m4 := .int .u32 0) (m5 := .int .u32 0) (m6 := .int .u64 0) (m7 := .int .i64 0) (m8 := .int .i64 0) (m9 := .bool false) (m10 := .int .i64 0) (m11 := .slice false true 0 []) (m12 := .slice false true 0 []) (m13 := .bool false) (m14 := .slice false true 0 []) (m16 := .slice false true 0 []) (l := []) (by decide) hb hp hc
theorem imm_16 (hb : b.length < 2 ^ 61) (hp : p ≤ b.length) (hc : c < List.length H) : runK c (C u4b [.ptr c 0]) (St H c (.cells [BS z b, .int .i64 p, .int .i64 (op : Nat), .int .u32 0, .int .u32 0, .int .u64 0, .int .u32 0, .int .u32 0, .int .u64 0, .int .i64 0, .int .i64 0, .bool false, .int .i64 0, .slice false true 0 [], .slice false true 0 [], .bool false, .slice false true 0 [], .slice false true 0 [], .slice false true 0 [], .int .i64 bad, .int .i64 why]) L) = some (.ok (.tup []) (St H c (rdBox z b (imm 16 op b ⟨p, bad, why⟩)) L)) :=
  ixnS (c := c) (H := H) (L := L) (b := b) (z := z) (p := p) (bad := bad) (why := why) (m0 := .int .i64 (op : Nat)) (m1 := .int .u32 0) (m2 := .int .u32 0) (m3 := .int .u64 0) (m4 := .int .u32 0) (m5 := .int .u32 0) (m6 := .int .u64 0) (m7 := .int .i64 0) (m8 := .int .i64 0) (m9 := .bool false) (m10 := .int .i64 0) (m11 := .slice false true 0 []) (m12 := .slice false true 0 []) (m13 := .bool false) (m14 := .slice false true 0 []) (m15 := .slice false true 0 []) (m16 := .slice false true 0 [])  hb hp hc
theorem imm_0 (hc : c < List.length H) : runK c (C u12 [.ptr c 0]) (St H c (.cells [BS z b, .int .i64 p, .int .i64 (op : Nat), .int .u32 0, .int .u32 0, .int .u64 0, .int .u32 0, .int .u32 0, .int .u64 0, .int .i64 0, .int .i64 0, .bool false, .int .i64 0, .slice false true 0 [], .slice false true 0 [], .bool false, .slice false true 0 [], .slice false true 0 [], .slice false true 0 [], .int .i64 bad, .int .i64 why]) L) = some (.ok (.tup []) (St H c (rdBox z b (imm 0 op b ⟨p, bad, why⟩)) L)) := liftT (fun H hc => by
  rw [u56]
  simp +contextual -dsimp (disch := omega) only [↓kDown, kUp, ↓goDown, goUp, cr, simprocAttr] <;> rfl) hc
theorem imm_1 (hc : c < List.length H) : runK c (C u12 [.ptr c 0]) (St H c (.cells [BS z b, .int .i64 p, .int .i64 (op : Nat), .int .u32 0, .int .u32 0, .int .u64 0, .int .u32 0, .int .u32 0, .int .u64 0, .int .i64 0, .int .i64 0, .bool false, .int .i64 0, .slice false true 0 [], .slice false true 0 [], .bool false, .slice false true 0 [], .slice false true 0 [], .slice false true 0 [], .int .i64 bad, .int .i64 why]) L) = some (.ok (.tup []) (St H c (rdBox z b (imm 1 op b ⟨p, bad, why⟩)) L)) := liftT (fun H hc => by
  rw [u56]
  simp +contextual -dsimp (disch := omega) only [↓kDown, kUp, ↓goDown, goUp, cr, simprocAttr] <;> rfl) hc
end Go.Proofs.YthidcpkcfoldmaaGreat.Pi.Q
namespace Go.Proofs.YthidcpkcfoldmaaGreat.Pi.Q
open Go Go.Proofs.YthidcpkcfoldmaaGreat.Pi
attribute [local congr] ite_congr
variable {c : Nat} {H : Heap} {L : List Box} {b : List UInt8} {z : Bool} {at_ : Nat}
def zeroI : List PV := [.int .i64 0, .int .u32 0, .int .u32 0, .int .u64 0, .int .u32 0, .int .u32 0, .int .u64 0, .int .i64 0, .int .i64 0, .bool false, .int .i64 0, .slice false true 0 [], .slice false true 0 [], .bool false, .slice false true 0 [], .slice false true 0 [], .slice false true 0 []]
def resI (r : List PV × TS) : PV := if r.2.why = 0 then .tup [.agg (r.1.map stripC), .int .i64 r.2.p, .int .i64 0] else .tup [.agg zeroI, .int .i64 r.2.bad, .int .i64 r.2.why]
def ue5 : List PV := [.fn u12 [] [], .fn u12 [] [], .fn u24 [] [], .fn u1x [] [], .fn u2y [] [], .fn u4a [] [], .fn u23 [] [], .fn u1r [] [], .fn u2n [] [], .fn u3v [] [], .fn u3u [] [], .fn u3r [] [], .fn u3s [] [], .fn u36 [] [], .fn u37 [] [], .fn u2l [] [], .fn u4b [] []]
theorem ui4 : run (C u7n []) H = some (.ok (.agg ue5) H) := by
  rw [udz]
  unfold ue5
  simp +contextual -dsimp (disch := omega) only [↓goDown, goUp, cr, simprocAttr]
theorem uw5 {sz : Nat} {l : List PV} : isCell (stripC (accP sz l)) = true := by cases l <;> rfl
theorem uyh {sz : Nat} {l : List PV} : (stripC (accP sz l)).cells = [stripC (accP sz l)] := by cases l <;> rfl
theorem low_sa {sz n : Nat} {l : List PV} : (stripC (accP sz l)).low n = true := by cases l <;> simp [accP, stripC, u6h]
theorem ulu {sz : Nat} {l : List PV} : stripC (stripC (accP sz l)) = stripC (accP sz l) := by cases l <;> rfl
theorem St_2' {x y : Box} : hadd H [x, y] = St (hadd H [x, .dead]) (List.length H + 1) y [] := by
  unfold St hadd hset
  rw [List.append_nil, List.set_append_right _ _ (by omega)]
  simp
theorem use_2' {m : M PV} {x y w : Box} {v : PV} (h : runK (List.length H + 1) m (St (hadd H [x, .dead]) (List.length H + 1) y []) = some (.ok v (St (hadd H [x, .dead]) (List.length H + 1) w []))) : run m (hadd H [x, y]) = some (.ok v (hadd H [x, w])) := by
  rw [← St_2', ← St_2'] at h
  exact umy h
theorem new2' {x y : Box} : List.length H + 1 < List.length (hadd H [x, y]) := by rw [u39]; simp
def goodR (v : PV) : Prop := (isCell v = true ∧ v.cells = [v] ∧ (∀ n, v.low n = true)) ∧ isCell (stripC v) = true ∧ (stripC v).cells = [stripC v] ∧ (∀ n, (stripC v).low n = true) ∧ stripC (stripC v) = stripC v
theorem ufd {k : IntKind} {n : Int} : goodR (.int k n) := ⟨⟨rfl, rfl, fun n => u8w⟩, rfl, rfl, fun n => u8w, rfl⟩
theorem usd {x : Bool} : goodR (.bool x) := ⟨⟨rfl, rfl, fun n => ubs⟩, rfl, rfl, fun n => ubs, rfl⟩
theorem uw0 : goodR (.slice false true 0 []) := ⟨⟨rfl, rfl, fun n => u6h⟩, rfl, rfl, fun n => u6h, rfl⟩
theorem uu5 {sz : Nat} {l : List PV} : goodR (accP sz l) := ⟨⟨u60, u6v, fun n => low_Pa⟩, uw5, uyh, fun n => low_sa, ulu⟩
theorem uwd {n : Nat} {l : List Nat} {t : TS} : goodR (tabM b n l t (.int .u32 0)) := by unfold tabM; split <;> exact ufd
theorem uvm {t : TS} : goodR (memM b t (.int .u32 0)) := by unfold memM; split <;> exact ufd
theorem uxo {k op : Nat} {t : TS} : ∀ v ∈ (imm k op b t).1, goodR v := by
  intro v hv
  unfold imm at hv
  split at hv <;>
  · simp only [List.mem_cons, List.not_mem_nil, or_false] at hv
    rcases hv with h | h | h | h | h | h | h | h | h | h | h | h | h | h | h | h | h <;> rw [h] <;> first | exact ufd | exact usd | exact uw0 | exact uu5 | exact uwd | exact uvm
theorem uzz {k op : Nat} {t : TS} : ∃ m0 m1 m2 m3 m4 m5 m6 m7 m8 m9 m10 m11 m12 m13 m14 m15 m16, (imm k op b t).1 = [m0, m1, m2, m3, m4, m5, m6, m7, m8, m9, m10, m11, m12, m13, m14, m15, m16] := by
  unfold imm
  split <;> exact ⟨_, _, _, _, _, _, _, _, _, _, _, _, _, _, _, _, _, rfl⟩
theorem u2h {k : Nat} {f : FuncId} (hb : b.length < 2 ^ 61) (hp : at_ ≤ b.length) (hs : (smT b 255 ⟨at_, 0, 0⟩).2.why = 0) (hk : formN ((opcT b (⟨at_, 0, 0⟩ : TS)).1 : Nat) = k) (h17 : k < 17)
    (hf : ∀ K, ldFR K (nth ue5 k) = some (.ok (.fn f [] []) K))
    (hi : ∀ (c : Nat) (H : Heap) (L : List Box) (p bad why op : Nat), p ≤ b.length → c < List.length H → runK c (C f [.ptr c 0]) (St H c (.cells [BS z b, .int .i64 p, .int .i64 (op : Nat), .int .u32 0, .int .u32 0, .int .u64 0, .int .u32 0, .int .u32 0, .int .u64 0, .int .i64 0, .int .i64 0, .bool false, .int .i64 0, .slice false true 0 [], .slice false true 0 [], .bool false, .slice false true 0 [], .slice false true 0 [], .slice false true 0 [], .int .i64 bad, .int .i64 why]) L) = some (.ok (.tup []) (St H c (rdBox z b (imm k op b ⟨p, bad, why⟩)) L))) :
    run (C u5a [BS z b, .int .i64 at_]) H = some (.ok (resI (imm k (opcT b (⟨at_, 0, 0⟩ : TS)).1 b (opcT b (⟨at_, 0, 0⟩ : TS)).2)) H) := by
  have c1 : (((at_ : Nat) : Int) < 0) = False := eq_false (by omega)
  have c2 : ((b.length : Int) < (at_ : Int)) = False := eq_false (by omega)
  have ho := use_2' (iopcS (c := List.length H + 1) (H := hadd H [.cells zeroI, .dead]) (L := []) (b := b) (z := z) (p := at_) (bad := 0) (why := 0) (m0 := .int .i64 0) (m1 := .int .u32 0) (m2 := .int .u32 0) (m3 := .int .u64 0) (m4 := .int .u32 0) (m5 := .int .u32 0) (m6 := .int .u64 0) (m7 := .int .i64 0) (m8 := .int .i64 0) (m9 := .bool false) (m10 := .int .i64 0) (m11 := .slice false true 0 []) (m12 := .slice false true 0 []) (m13 := .bool false) (m14 := .slice false true 0 []) (m15 := .slice false true 0 []) (m16 := .slice false true 0 []) hs hb hp new2')
  rw [hk] at ho
  simp only [show ((0 : Nat) : Int) = 0 from rfl] at ho
  have hn1 : (List.length H + 1 == List.length H) = false := beq_false_of_ne (by omega)
  have hn2 : (List.length H == List.length H + 1) = false := beq_false_of_ne (by omega)
  have ck : (0 ≤ (k : Int) ∧ (k : Int) < 17) = True := eq_true (by omega)
  have h1 : (opcT b (⟨at_, 0, 0⟩ : TS)).2.p ≤ b.length := utk hp
  have hm := use_2' (hi (List.length H + 1) (hadd H [.cells zeroI, .dead]) [] (opcT b (⟨at_, 0, 0⟩ : TS)).2.p (opcT b (⟨at_, 0, 0⟩ : TS)).2.bad (opcT b (⟨at_, 0, 0⟩ : TS)).2.why (opcT b (⟨at_, 0, 0⟩ : TS)).1 h1 new2')
  simp only [TS.eta] at hm
  have hg := uxo (b := b) (k := k) (op := (opcT b (⟨at_, 0, 0⟩ : TS)).1) (t := (opcT b (⟨at_, 0, 0⟩ : TS)).2)
  obtain ⟨m0, m1, m2, m3, m4, m5, m6, m7, m8, m9, m10, m11, m12, m13, m14, m15, m16, hcs⟩ := uzz (b := b) (k := k) (op := (opcT b (⟨at_, 0, 0⟩ : TS)).1) (t := (opcT b (⟨at_, 0, 0⟩ : TS)).2)
  generalize hr : imm k (opcT b (⟨at_, 0, 0⟩ : TS)).1 b (opcT b (⟨at_, 0, 0⟩ : TS)).2 = r at hm hg hcs ⊢
  generalize (opcT b (⟨at_, 0, 0⟩ : TS)) = o at ho hm h1 hk
  obtain ⟨cl, q⟩ := r
  simp only at hcs
  subst hcs
  have g0 := hg m0 (by simp)
  have g1 := hg m1 (by simp)
  have g2 := hg m2 (by simp)
  have g3 := hg m3 (by simp)
  have g4 := hg m4 (by simp)
  have g5 := hg m5 (by simp)
  have g6 := hg m6 (by simp)
  have g7 := hg m7 (by simp)
  have g8 := hg m8 (by simp)
  have g9 := hg m9 (by simp)
  have g10 := hg m10 (by simp)
  have g11 := hg m11 (by simp)
  have g12 := hg m12 (by simp)
  have g13 := hg m13 (by simp)
  have g14 := hg m14 (by simp)
  have g15 := hg m15 (by simp)
  have g16 := hg m16 (by simp)
  have hr := fun K => ui4 (H := K)
  unfold zeroI at ho hm
  unfold resI zeroI
  unfold rdBox at hm
  simp only [List.cons_append, List.nil_append] at hm ⊢
  clear hg hi
  rw [u8x]
  by_cases hw : q.why = 0
  · have hw' : (((q.why : Nat) : Int) = 0) = True := eq_true (by omega)
    rw [if_pos hw]
    simp +contextual -dsimp (disch := omega) only [↓goDown, goUp, cr, simprocAttr, List.length_map, c1, c2, hr, ho, ufl, ck, Int.toNat_natCast, hf, hn1, hn2, u2e, hm, hw', g0.1.1, g0.1.2.1, g0.1.2.2, g0.2.1, g0.2.2.1, g0.2.2.2.1, g0.2.2.2.2, g1.1.1, g1.1.2.1, g1.1.2.2, g1.2.1, g1.2.2.1, g1.2.2.2.1, g1.2.2.2.2, g2.1.1, g2.1.2.1, g2.1.2.2, g2.2.1, g2.2.2.1, g2.2.2.2.1, g2.2.2.2.2, g3.1.1, g3.1.2.1, g3.1.2.2, g3.2.1, g3.2.2.1, g3.2.2.2.1, g3.2.2.2.2, g4.1.1, g4.1.2.1, g4.1.2.2, g4.2.1, g4.2.2.1, g4.2.2.2.1, g4.2.2.2.2, g5.1.1, g5.1.2.1, g5.1.2.2, g5.2.1, g5.2.2.1, g5.2.2.2.1, g5.2.2.2.2, g6.1.1, g6.1.2.1, g6.1.2.2, g6.2.1, g6.2.2.1, g6.2.2.2.1, g6.2.2.2.2, g7.1.1, g7.1.2.1, g7.1.2.2, g7.2.1, g7.2.2.1, g7.2.2.2.1, g7.2.2.2.2, g8.1.1, g8.1.2.1, g8.1.2.2, g8.2.1, g8.2.2.1, g8.2.2.2.1, g8.2.2.2.2, g9.1.1, g9.1.2.1, g9.1.2.2, g9.2.1, g9.2.2.1, g9.2.2.2.1, g9.2.2.2.2, g10.1.1, g10.1.2.1, g10.1.2.2, g10.2.1, g10.2.2.1, g10.2.2.2.1, g10.2.2.2.2, g11.1.1, g11.1.2.1, g11.1.2.2, g11.2.1, g11.2.2.1, g11.2.2.2.1, g11.2.2.2.2, g12.1.1, g12.1.2.1, g12.1.2.2, g12.2.1, g12.2.2.1, g12.2.2.2.1, g12.2.2.2.2, g13.1.1, g13.1.2.1, g13.1.2.2, g13.2.1, g13.2.2.1, g13.2.2.2.1, g13.2.2.2.2, g14.1.1, g14.1.2.1, g14.1.2.2, g14.2.1, g14.2.2.1, g14.2.2.2.1, g14.2.2.2.2, g15.1.1, g15.1.2.1, g15.1.2.2, g15.2.1, g15.2.2.1, g15.2.2.2.1, g15.2.2.2.2, g16.1.1, g16.1.2.1, g16.1.2.2, g16.2.1, g16.2.2.1, g16.2.2.2.1, g16.2.2.2.2]
  · have hw' : (((q.why : Nat) : Int) = 0) = False := eq_false (by omega)
    rw [if_neg hw]
    simp +contextual -dsimp (disch := omega) only [↓goDown, goUp, cr, simprocAttr, List.length_map, c1, c2, hr, ho, ufl, ck, Int.toNat_natCast, hf, hn1, hn2, u2e, hm, hw', g0.1.1, g0.1.2.1, g0.1.2.2, g0.2.1, g0.2.2.1, g0.2.2.2.1, g0.2.2.2.2, g1.1.1, g1.1.2.1, g1.1.2.2, g1.2.1, g1.2.2.1, g1.2.2.2.1, g1.2.2.2.2, g2.1.1, g2.1.2.1, g2.1.2.2, g2.2.1, g2.2.2.1, g2.2.2.2.1, g2.2.2.2.2, g3.1.1, g3.1.2.1, g3.1.2.2, g3.2.1, g3.2.2.1, g3.2.2.2.1, g3.2.2.2.2, g4.1.1, g4.1.2.1, g4.1.2.2, g4.2.1, g4.2.2.1, g4.2.2.2.1, g4.2.2.2.2, g5.1.1, g5.1.2.1, g5.1.2.2, g5.2.1, g5.2.2.1, g5.2.2.2.1, g5.2.2.2.2, g6.1.1, g6.1.2.1, g6.1.2.2, g6.2.1, g6.2.2.1, g6.2.2.2.1, g6.2.2.2.2, g7.1.1, g7.1.2.1, g7.1.2.2, g7.2.1, g7.2.2.1, g7.2.2.2.1, g7.2.2.2.2, g8.1.1, g8.1.2.1, g8.1.2.2, g8.2.1, g8.2.2.1, g8.2.2.2.1, g8.2.2.2.2, g9.1.1, g9.1.2.1, g9.1.2.2, g9.2.1, g9.2.2.1, g9.2.2.2.1, g9.2.2.2.2, g10.1.1, g10.1.2.1, g10.1.2.2, g10.2.1, g10.2.2.1, g10.2.2.2.1, g10.2.2.2.2, g11.1.1, g11.1.2.1, g11.1.2.2, g11.2.1, g11.2.2.1, g11.2.2.2.1, g11.2.2.2.2, g12.1.1, g12.1.2.1, g12.1.2.2, g12.2.1, g12.2.2.1, g12.2.2.2.1, g12.2.2.2.2, g13.1.1, g13.1.2.1, g13.1.2.2, g13.2.1, g13.2.2.1, g13.2.2.2.1, g13.2.2.2.2, g14.1.1, g14.1.2.1, g14.1.2.2, g14.2.1, g14.2.2.1, g14.2.2.2.1, g14.2.2.2.2, g15.1.1, g15.1.2.1, g15.1.2.2, g15.2.1, g15.2.2.1, g15.2.2.2.1, g15.2.2.2.2, g16.1.1, g16.1.2.1, g16.1.2.2, g16.2.1, g16.2.2.1, g16.2.2.2.1, g16.2.2.2.2]
end Go.Proofs.YthidcpkcfoldmaaGreat.Pi.Q
namespace Go.Proofs.YthidcpkcfoldmaaGreat.Pi.Q
open Go Go.Proofs.YthidcpkcfoldmaaGreat.Pi
attribute [local congr] ite_congr
variable {c : Nat} {H : Heap} {L : List Box} {b : List UInt8} {z : Bool} {at_ : Nat}
theorem uv1 {r : PV} {K : Heap} : run (C u12 [r]) K = some (.ok (.tup []) K) := by
  rw [u56]
  simp +contextual -dsimp (disch := omega) only [↓goDown, goUp, cr, simprocAttr]
theorem uxy (hb : b.length < 2 ^ 61) (hp : at_ ≤ b.length) (hs : (smT b 255 ⟨at_, 0, 0⟩).2.why ≠ 0) : run (C u5a [BS z b, .int .i64 at_]) H = some (.ok (resI (zeroI, (smT b 255 (⟨at_, 0, 0⟩ : TS)).2)) H) := by
  have c1 : (((at_ : Nat) : Int) < 0) = False := eq_false (by omega)
  have c2 : ((b.length : Int) < (at_ : Int)) = False := eq_false (by omega)
  have ho := use_2' (v00d (c := List.length H + 1) (H := hadd H [.cells zeroI, .dead]) (L := []) (b := b) (z := z) (p := at_) (bad := 0) (why := 0) (m0 := .int .i64 0) (m1 := .int .u32 0) (m2 := .int .u32 0) (m3 := .int .u64 0) (m4 := .int .u32 0) (m5 := .int .u32 0) (m6 := .int .u64 0) (m7 := .int .i64 0) (m8 := .int .i64 0) (m9 := .bool false) (m10 := .int .i64 0) (m11 := .slice false true 0 []) (m12 := .slice false true 0 []) (m13 := .bool false) (m14 := .slice false true 0 []) (m15 := .slice false true 0 []) (m16 := .slice false true 0 []) hs hb new2')
  simp only [show ((0 : Nat) : Int) = 0 from rfl] at ho
  have hn1 : (List.length H + 1 == List.length H) = false := beq_false_of_ne (by omega)
  have hn2 : (List.length H == List.length H + 1) = false := beq_false_of_ne (by omega)
  have h17 : ((17 : Nat) : Int) = 17 := rfl
  have hr := fun K => ui4 (H := K)
  have hw' : ((((smT b 255 (⟨at_, 0, 0⟩ : TS)).2.why : Nat) : Int) = 0) = False := eq_false (by omega)
  unfold ue5 at hr
  unfold zeroI at ho
  unfold resI zeroI
  rw [if_neg hs]
  rw [u8x]
  simp +contextual -dsimp (disch := omega) only [↓goDown, goUp, cr, simprocAttr, List.length_map, c1, c2, hr, ho, ufl, h17, hn1, hn2, u2e, uv1, hw']
def readP (b : List UInt8) (a : Nat) : List PV × TS := if (smT b 255 ⟨a, 0, 0⟩).2.why = 0 then imm (formN ((opcT b ⟨a, 0, 0⟩).1 : Nat)) (opcT b ⟨a, 0, 0⟩).1 b (opcT b ⟨a, 0, 0⟩).2 else (zeroI, (smT b 255 ⟨a, 0, 0⟩).2)
theorem uqq (hb : b.length < 2 ^ 61) (hp : at_ ≤ b.length) : run (C u5a [BS z b, .int .i64 at_]) H = some (.ok (resI (readP b at_)) H) := by
  unfold readP
  by_cases hs : (smT b 255 ⟨at_, 0, 0⟩).2.why = 0
  · rw [if_pos hs]
    have hl := uc9 ((opcT b (⟨at_, 0, 0⟩ : TS)).1 : Nat)
    generalize hk : formN ((opcT b (⟨at_, 0, 0⟩ : TS)).1 : Nat) = k at hl ⊢
    have h : k = 0 ∨ k = 1 ∨ k = 2 ∨ k = 3 ∨ k = 4 ∨ k = 5 ∨ k = 6 ∨ k = 7 ∨ k = 8 ∨ k = 9 ∨ k = 10 ∨ k = 11 ∨ k = 12 ∨ k = 13 ∨ k = 14 ∨ k = 15 ∨ k = 16 := by omega
    rcases h with rfl | rfl | rfl | rfl | rfl | rfl | rfl | rfl | rfl | rfl | rfl | rfl | rfl | rfl | rfl | rfl | rfl
    · exact u2h hb hp hs hk (by decide) (fun K => rfl) (fun c H L p bad why op hp hc => imm_0 hc)
    · exact u2h hb hp hs hk (by decide) (fun K => rfl) (fun c H L p bad why op hp hc => imm_1 hc)
    · exact u2h hb hp hs hk (by decide) (fun K => rfl) (fun c H L p bad why op hp hc => imm_2 hb hp hc)
    · exact u2h hb hp hs hk (by decide) (fun K => rfl) (fun c H L p bad why op hp hc => imm_3 hb hp hc)
    · exact u2h hb hp hs hk (by decide) (fun K => rfl) (fun c H L p bad why op hp hc => imm_4 hb hp hc)
    · exact u2h hb hp hs hk (by decide) (fun K => rfl) (fun c H L p bad why op hp hc => imm_5 hb hp hc)
    · exact u2h hb hp hs hk (by decide) (fun K => rfl) (fun c H L p bad why op hp hc => imm_6 hb hp hc)
    · exact u2h hb hp hs hk (by decide) (fun K => rfl) (fun c H L p bad why op hp hc => imm_7 hb hp hc)
    · exact u2h hb hp hs hk (by decide) (fun K => rfl) (fun c H L p bad why op hp hc => imm_8 hb hp hc)
    · exact u2h hb hp hs hk (by decide) (fun K => rfl) (fun c H L p bad why op hp hc => imm_9 hb hp hc)
    · exact u2h hb hp hs hk (by decide) (fun K => rfl) (fun c H L p bad why op hp hc => imm_10 hb hp hc)
    · exact u2h hb hp hs hk (by decide) (fun K => rfl) (fun c H L p bad why op hp hc => imm_11 hb hp hc)
    · exact u2h hb hp hs hk (by decide) (fun K => rfl) (fun c H L p bad why op hp hc => imm_12 hb hp hc)
    · exact u2h hb hp hs hk (by decide) (fun K => rfl) (fun c H L p bad why op hp hc => imm_13 hb hp hc)
    · exact u2h hb hp hs hk (by decide) (fun K => rfl) (fun c H L p bad why op hp hc => imm_14 hb hp hc)
    · exact u2h hb hp hs hk (by decide) (fun K => rfl) (fun c H L p bad why op hp hc => imm_15 hb hp hc)
    · exact u2h hb hp hs hk (by decide) (fun K => rfl) (fun c H L p bad why op hp hc => imm_16 hb hp hc)
  · rw [if_neg hs]
    exact uxy hb hp hs
theorem uvh {a : Int} (h : a < 0 ∨ (b.length : Int) < a) : run (C u5a [BS z b, .int .i64 a]) H = some (.ok (.tup [.agg zeroI, .int .i64 0, .int .i64 1]) H) := by
  unfold zeroI
  rw [u8x]
  by_cases h0 : a < 0
  · simp +contextual -dsimp (disch := omega) only [↓goDown, goUp, cr, simprocAttr, List.length_map, eq_true h0]
  · have h1 : (b.length : Int) < a := by omega
    simp +contextual -dsimp (disch := omega) only [↓goDown, goUp, cr, simprocAttr, List.length_map, h0, eq_true h1]
end Go.Proofs.YthidcpkcfoldmaaGreat.Pi.Q
namespace Go.Proofs.YthidcpkcfoldmaaGreat.Pi.Q
open Go Go.Proofs.YthidcpkcfoldmaaGreat.Pi
attribute [local congr] ite_congr
variable {c : Nat} {H : Heap} {L : List Box} {b : List UInt8} {z : Bool} {p bad why : Nat}
def repE {α : Type} (one : TS → α × TS) : Nat → List α → TS → List α × TS
  | 0, l, t => (l, t)
  | k + 1, l, t => if t.why = 0 then repE one k (l ++ [(one t).1]) (one t).2 else (l, t)
end Go.Proofs.YthidcpkcfoldmaaGreat.Pi.Q
namespace Go.Proofs.YthidcpkcfoldmaaGreat.Pi.Q
open Go Go.Proofs.YthidcpkcfoldmaaGreat.Pi
variable {b : List UInt8}
theorem tk_no {α : Type} {zero : α} {r : Nat → Rs α} {t : TS} (h : t.why ≠ 0) : tk zero r t = (zero, t) := by unfold tk; rw [if_neg h]
theorem upT_no {most e : Nat} {t : TS} (h : t.why ≠ 0) : upT b most e t = (0, t) := by
  unfold upT
  rw [tk_no h, if_neg (fun g => h g.1)]
theorem smT_no {most : Nat} {t : TS} (h : t.why ≠ 0) : smT b most t = (0, t) := by unfold smT; rw [if_neg h]
theorem uo4 {α : Type} {one : TS → α × TS} {k : Nat} {l : List α} {t : TS} (h : t.why ≠ 0) : repE one k l t = (l, t) := by
  cases k with
  | zero => rfl
  | succ k => unfold repE; rw [if_neg h]
theorem repC_E {α : Type} {one : TS → α × TS} : ∀ (k : Nat) (l : List α) (t : TS), t.why = 0 ∨ k = 0 → (repE one k l t).2 = (repC one k l t).2 ∧ ((repC one k l t).2.why = 0 → (repE one k l t).1 = (repC one k l t).1)
  | 0, l, t, h => ⟨rfl, fun _ => rfl⟩
  | k + 1, l, t, h => by
    have h0 : t.why = 0 := by omega
    simp only [repE, repC, if_pos h0]
    by_cases h1 : (one t).2.why = 0
    · rw [if_pos h1]
      exact repC_E k _ _ (.inl h1)
    · rw [if_neg h1, uo4 h1]
      exact ⟨rfl, fun g => absurd g h1⟩
theorem repT_E {α : Type} {one : TS → α × TS} : ∀ (k : Nat) (l : List α) (t : TS), t.why = 0 ∨ k = 0 → (repE one k l t) = (repT one k l t).1 ∧ ((repT one k l t).2 = true → (repT one k l t).1.2.why ≠ 0)
  | 0, l, t, h => ⟨rfl, fun g => by cases g⟩
  | k + 1, l, t, h => by
    have h0 : t.why = 0 := by omega
    simp only [repE, repT, if_pos h0]
    by_cases h1 : (one t).2.why = 0
    · rw [if_pos h1]
      exact repT_E k _ _ (.inl h1)
    · rw [if_neg h1, uo4 h1]
      exact ⟨rfl, fun _ => h1⟩
theorem un4 {most e : Nat} {t : TS} : (upT b most e t).2.why = 0 ∨ (upT b most e t).1 = 0 := by
  unfold upT
  split
  · exact .inr rfl
  · by_cases h : (tk (0 : Nat) (rdU b 32 b.length) t).2.why = 0
    · exact .inl h
    · exact .inr (tk_why h)
theorem imm_no {k op : Nat} {t : TS} (h : t.why ≠ 0) : (imm k op b t).2 = t := by
  have hlab : ∀ l, labR b 0 l t = ((l, t), false) := fun l => rfl
  unfold imm
  have hm : memT b t = t := by unfold memT; rw [upT_no h]; exact if_neg (by show ¬ 63 < 0; decide)
  have ht : tabT b 0 [] t = t := by unfold tabT; rw [hlab]; simp only [Bool.false_eq_true, ↓reduceIte, tk_no h]
  split <;> simp only [tk_no h, upT_no h, smT_no h, hm, ht]
  all_goals rfl
theorem uzi (v : Int) : IntKind.u64.wrap (IntKind.u32.wrap (IntKind.i32.wrap v)) = (IntKind.u64.wrap v) % 4294967296 := by
  have e : ∀ n, IntKind.u64.wrap n = n % 18446744073709551616 := fun n => by simp only [IntKind.wrap, IntKind.signed, IntKind.bits]; simp
  rw [e, e, IntKind.wrap_u32, IntKind.wrap_i32]
  omega
theorem tk_ok {α : Type} {zero : α} {r : Nat → Rs α} {t : TS} (h : (tk zero r t).2.why = 0) : t.why = 0 := by
  by_cases h0 : t.why = 0
  · exact h0
  · rw [tk_no h0] at h; exact h
theorem smT_p1 {most : Nat} {t : TS} (h : (smT b most t).2.why = 0) : (smT b most t).2.p = t.p + 1 ∧ t.why = 0 := by
  unfold smT at h ⊢
  by_cases h0 : t.why = 0
  · rw [if_pos h0] at h ⊢
    by_cases h1 : t.p < b.length
    · rw [if_pos h1] at h ⊢
      by_cases h2 : most < (b.getD t.p 0).toNat
      · rw [if_pos h2] at h; exact absurd h (by first | exact (by decide : ¬ (4 : Nat) = 0) | exact (by decide : ¬ (3 : Nat) = 0))
      · rw [if_neg h2]; exact ⟨rfl, h0⟩
    · rw [if_neg h1] at h; exact absurd h (by first | exact (by decide : ¬ (4 : Nat) = 0) | exact (by decide : ¬ (3 : Nat) = 0))
  · rw [if_neg h0] at h; exact absurd h h0
end Go.Proofs.YthidcpkcfoldmaaGreat.Pi.Q
namespace Go.Proofs.YthidcpkcfoldmaaGreat.Pi.Q
open Go Go.Proofs.YthidcpkcfoldmaaGreat.Pi
variable {b : List UInt8}
structure II where
  op : Int := 0
  x : Int := 0
  y : Int := 0
  n : Int := 0
  al : Int := 0
  me : Int := 0
  off : Int := 0
  blk : BK := ⟨0, ⟨0, false, 0⟩⟩
  la : List Nat := []
  ty : List VT := []
  ca : List CN := []
def csII (v : II) : List PV := [.int .i64 v.op, .int .u32 v.x, .int .u32 v.y, .int .u64 v.n, .int .u32 v.al, .int .u32 v.me, .int .u64 v.off, .int .i64 v.blk.ty, .int .i64 v.blk.res.num, .bool v.blk.res.nul, .int .i64 v.blk.res.heap, .slice false true 0 [], .slice false true 0 [], .bool false, shutP 1 (v.la.map encN), shutP 3 (v.ty.map encV), shutP 3 (v.ca.map encCN)]
theorem sa_P {sz : Nat} {l : List PV} : stripC (accP sz l) = shutP sz l := by cases l <;> rfl
def memN (b : List UInt8) (t : TS) : Nat := if 63 < (upT b 127 4 t).1 then (tk (0 : Nat) (rdU b 32 b.length) (upT b 127 4 t).2).1 else 0
def tabN (b : List UInt8) (n : Nat) (t : TS) : Nat := if (labR b n [] t).2 = true then 0 else (tk (0 : Nat) (rdU b 32 b.length) (labR b n [] t).1.2).1
def immI (k op : Nat) (b : List UInt8) (t : TS) : II :=
  match k with
  | 2 => { op := op, blk := (tk (⟨0, ⟨0, false, 0⟩⟩ : BK) (rBlock b) t).1 }
  | 3 => { op := op, blk := (tk (⟨0, ⟨0, false, 0⟩⟩ : BK) (rBlock b) t).1, ca := (repC (clT b) (upT b 65536 2 (tk (⟨0, ⟨0, false, 0⟩⟩ : BK) (rBlock b) t).2).1 [] (upT b 65536 2 (tk (⟨0, ⟨0, false, 0⟩⟩ : BK) (rBlock b) t).2).2).1 }
  | 4 => { op := op, x := (tk (0 : Nat) (rdU b 32 b.length) t).1 }
  | 5 => { op := op, x := (tk (0 : Nat) (rdU b 32 b.length) t).1, y := (tk (0 : Nat) (rdU b 32 b.length) (tk (0 : Nat) (rdU b 32 b.length) t).2).1 }
  | 6 => { op := op, x := tabN b (upT b 65536 2 t).1 (upT b 65536 2 t).2, la := (labR b (upT b 65536 2 t).1 [] (upT b 65536 2 t).2).1.1 }
  | 7 => { op := op, ty := (valR b (upT b 1000 2 t).1 [] (upT b 1000 2 t).2).1.1 }
  | 8 => { op := op, al := ((upT b 127 4 t).1 % 64 : Nat), me := memN b t, off := (tk (0 : Nat) (rdU b 64 b.length) (memT b t)).1 }
  | 9 => { op := op, n := IntKind.u64.wrap (IntKind.u32.wrap (IntKind.i32.wrap (tk (0 : Int) (rdS b 32 b.length) t).1)) }
  | 10 => { op := op, n := IntKind.u64.wrap (tk (0 : Int) (rdS b 64 b.length) t).1 }
  | 11 => { op := op, n := (tk (0 : Nat) (rdF b 4 b.length) t).1 }
  | 12 => { op := op, n := (tk (0 : Nat) (rdF b 8 b.length) t).1 }
  | 13 => { op := op, ty := [⟨5, true, (tk (0 : Int) (rHeap b) t).1⟩] }
  | 14 => { op := op, ty := [⟨5, ((op : Int) % 2 == 1), (tk (0 : Int) (rHeap b) t).1⟩] }
  | 15 => { op := op, x := (tk (0 : Nat) (rdU b 32 b.length) (smT b 3 t).2).1, ty := [⟨5, ((smT b 3 t).1 % 2 != 0), (tk (0 : Int) (rHeap b) (tk (0 : Nat) (rdU b 32 b.length) (smT b 3 t).2).2).1⟩, ⟨5, ((smT b 3 t).1 / 2 % 2 * 2 != 0), (tk (0 : Int) (rHeap b) (tk (0 : Int) (rHeap b) (tk (0 : Nat) (rdU b 32 b.length) (smT b 3 t).2).2).2).1⟩] }
  | 16 => { op := op, x := (tk (0 : Nat) (rdU b 32 b.length) t).1, n := (tk (0 : Nat) (rdU b 32 b.length) (tk (0 : Nat) (rdU b 32 b.length) t).2).1 }
  | _ => { op := op }
theorem tabM_N {n : Nat} {t : TS} : tabM b n [] t (.int .u32 0) = .int .u32 (tabN b n t : Nat) := by unfold tabM tabN; split <;> rfl
theorem memM_N {t : TS} : memM b t (.int .u32 0) = .int .u32 (memN b t : Nat) := by unfold memM memN; split <;> rfl
theorem imm_I {k op : Nat} {t : TS} : (imm k op b t).1.map stripC = csII (immI k op b t) := by
  unfold imm immI csII
  split <;> simp only [List.map_cons, List.map_nil, ulu, sa_P, tabM_N, memM_N] <;> first | rfl | skip
def II.fit (v : II) : Prop := v.la.length < 2 ^ 62 ∧ v.ty.length < 2 ^ 62 ∧ v.ca.length < 2 ^ 62
theorem ujl {α : Type} {one : TS → α × TS} : ∀ (k : Nat) (l : List α) (t : TS), (repT one k l t).1.1.length ≤ l.length + k
  | 0, l, t => by simp [repT]
  | k + 1, l, t => by
    simp only [repT]
    split
    · have := ujl (one := one) k (l ++ [(one t).1]) (one t).2
      simp at this
      omega
    · simp
theorem uoj {α : Type} {one : TS → α × TS} : ∀ (k : Nat) (l : List α) (t : TS), (repC one k l t).1.length ≤ l.length + k
  | 0, l, t => by simp [repC]
  | k + 1, l, t => by
    simp only [repC]
    split
    · have := uoj (one := one) k (l ++ [(one t).1]) (one t).2
      simp at this
      omega
    · simp
theorem uyr {k op : Nat} {t : TS} : (immI k op b t).fit := by
  have z : ([] : List Nat).length < 2 ^ 62 := by decide
  unfold immI II.fit
  split <;> refine ⟨?_, ?_, ?_⟩ <;> simp only [List.length_nil, List.length_cons] <;> first | decide | skip
  · have h1 := uoj (one := clT b) (upT b 65536 2 (tk (⟨0, ⟨0, false, 0⟩⟩ : BK) (rBlock b) t).2).1 [] (upT b 65536 2 (tk (⟨0, ⟨0, false, 0⟩⟩ : BK) (rBlock b) t).2).2
    have h2 := upT_lt (b := b) (most := 65536) (e := 2) (t := (tk (⟨0, ⟨0, false, 0⟩⟩ : BK) (rBlock b) t).2)
    simp only [List.length_nil] at h1
    omega
  · have h1 := ujl (one := tk (0 : Nat) (rdU b 32 b.length)) (upT b 65536 2 t).1 [] (upT b 65536 2 t).2
    have h2 := upT_lt (b := b) (most := 65536) (e := 2) (t := t)
    unfold labR
    simp only [List.length_nil] at h1
    omega
  · have h1 := ujl (one := tk valZ (rVal b)) (upT b 1000 2 t).1 [] (upT b 1000 2 t).2
    have h2 := upT_lt (b := b) (most := 1000) (e := 2) (t := t)
    unfold valR
    simp only [List.length_nil] at h1
    omega
theorem uj9 {k op : Nat} {t : TS} : (immI k op b t).op = op := by unfold immI; split <;> rfl
def readI (b : List UInt8) (a : Nat) : II × TS := if (smT b 255 ⟨a, 0, 0⟩).2.why = 0 then (immI (formN ((opcT b ⟨a, 0, 0⟩).1 : Nat)) (opcT b ⟨a, 0, 0⟩).1 b (opcT b ⟨a, 0, 0⟩).2, (imm (formN ((opcT b ⟨a, 0, 0⟩).1 : Nat)) (opcT b ⟨a, 0, 0⟩).1 b (opcT b ⟨a, 0, 0⟩).2).2) else ({}, (smT b 255 ⟨a, 0, 0⟩).2)
theorem resI_I {a : Nat} : resI (readP b a) = if (readI b a).2.why = 0 then .tup [.agg (csII (readI b a).1), .int .i64 (readI b a).2.p, .int .i64 0] else .tup [.agg (csII {}), .int .i64 (readI b a).2.bad, .int .i64 (readI b a).2.why] := by
  unfold readP readI resI
  by_cases h : (smT b 255 (⟨a, 0, 0⟩ : TS)).2.why = 0
  · rw [if_pos h, if_pos h, imm_I]
    rfl
  · rw [if_neg h, if_neg h, if_neg h, if_neg h]
    rfl
theorem uta {a : Nat} : (readI b a).1.fit ∧ 0 ≤ (readI b a).1.op ∧ (readI b a).1.op < 1048576 := by
  have hz : ({} : II).fit ∧ 0 ≤ ({} : II).op ∧ ({} : II).op < 1048576 := ⟨⟨by decide, by decide, by decide⟩, by decide, by decide⟩
  unfold readI
  split
  · refine ⟨uyr, ?_⟩
    have := uzp (b := b) (t := ⟨a, 0, 0⟩)
    simp only [uj9]
    omega
  · exact hz
end Go.Proofs.YthidcpkcfoldmaaGreat.Pi.Q
namespace Go.Proofs.YthidcpkcfoldmaaGreat.Pi.Q
open Go Go.Proofs.YthidcpkcfoldmaaGreat.Pi
attribute [local congr] ite_congr
theorem eql_s3 {H : Heap} {k1 k2 k3 : IntKind} {a b c : Int} : run (bi .eql (.struct [.int, .int, .int]) (.agg [.int k1 a, .int k2 b, .int k3 c]) (.agg [.int k1 a, .int k2 b, .int k3 c])) H = some (.ok (.bool true) H) := by
  unfold run bi
  simp [eqPV, u4m, u3n, M.pure]
theorem neq_s3 {H : Heap} {k1 k2 k3 : IntKind} {a b c : Int} : run (bi .neq (.struct [.int, .int, .int]) (.agg [.int k1 a, .int k2 b, .int k3 c]) (.agg [.int k1 a, .int k2 b, .int k3 c])) H = some (.ok (.bool false) H) := by
  unfold run bi
  simp [eqPV, u4m, u3n, M.pure]
end Go.Proofs.YthidcpkcfoldmaaGreat.Pi.Q
namespace Go.Proofs.YthidcpkcfoldmaaGreat.Pi.Q
open Go Go.Proofs.YthidcpkcfoldmaaGreat.Pi
theorem uil {h : Int} {acc : List UInt8} (ha : acc.length ≤ 1) : kHeap h acc = match wHeap h with | .ok u => .ok () (acc ++ u) | .err _ => .err u0c [0, 4] := by
  unfold wHeap kHeap
  by_cases h0 : 0 ≤ h
  · rw [if_pos h0, if_pos h0]
    by_cases h1 : h ≤ 2147483647
    · rw [if_pos h1, if_pos h1]
      have := ue9 4 h (by omega) (by omega)
      unfold kPut
      rw [if_pos (by omega)]
    · rw [if_neg h1, if_neg h1]
  · rw [if_neg h0, if_neg h0]
    cases find h absI 0 with
    | none => rfl
    | some j =>
      exact if_pos (by simp; omega)
theorem eH_w {h : Int} : eH h = match wHeap h with | .ok u => (u, 0) | .err _ => ([], 4) := by
  unfold eH
  rw [uil (by simp)]
  cases wHeap h <;> rfl
theorem kVal_w {v : VT} : kVal v [] = match wVal v with | .ok u => .ok () u | .err _ => .err u0c [0, 4] := by
  unfold kVal wVal
  by_cases h5 : v.num = 5
  · rw [if_pos h5, if_pos h5]
    by_cases hn : v.nul = false
    · rw [if_pos hn, if_pos hn]
      unfold kPut
      rw [if_pos (by simp)]
      simp only [Res.bind, List.nil_append]
      rw [uil (by simp)]
      cases wHeap v.heap <;> rfl
    · rw [if_neg hn, if_neg hn]
      by_cases h0 : 0 ≤ v.heap
      · rw [if_pos h0, if_pos h0]
        unfold kPut
        rw [if_pos (by simp)]
        simp only [Res.bind, List.nil_append]
        rw [uil (by simp)]
        cases wHeap v.heap <;> rfl
      · rw [if_neg h0, if_neg h0]
        simp only [Res.bind]
        rw [uil (by simp)]
        cases wHeap v.heap <;> rfl
  · rw [if_neg h5, if_neg h5]
    split
    · rfl
    · rfl
theorem eV_w {v : VT} : eV v = match wVal v with | .ok u => (u, 0) | .err _ => ([], 4) := by
  unfold eV
  rw [kVal_w]
  cases wVal v <;> rfl
def wBlock (v : BK) : Wr :=
  if 0 ≤ v.ty then if v.res = ⟨0, false, 0⟩ ∧ v.ty ≤ 2147483647 then .ok (putS v.ty) else .err 4
  else if v.ty < -1 then .err 4
  else if v.res = ⟨0, false, 0⟩ then .ok [64] else wVal v.res
theorem eB_w {v : BK} : eB v = match wBlock v with | .ok u => (u, 0) | .err _ => ([], 4) := by
  unfold eB kBlock wBlock
  by_cases h0 : 0 ≤ v.ty
  · rw [if_pos h0, if_pos h0]
    split <;> rfl
  · rw [if_neg h0, if_neg h0]
    by_cases h1 : v.ty < -1
    · rw [if_pos h1, if_pos h1]; rfl
    · rw [if_neg h1, if_neg h1]
      by_cases h2 : v.res = ⟨0, false, 0⟩
      · rw [if_pos h2, if_pos h2]; rfl
      · rw [if_neg h2, if_neg h2, kVal_w]
        cases wVal v.res <;> rfl
theorem uw1 {v : VT} {u : List UInt8} (h : wVal v = .ok u) : ∃ c r, u = c :: r ∧ 64 < c.toNat ∧ c.toNat < 128 := by
  unfold wVal at h
  by_cases h5 : v.num = 5
  · rw [if_pos h5] at h
    obtain ⟨x, hx, rfl⟩ := unv h
    by_cases hn : v.nul = false
    · rw [if_pos hn]; exact ⟨100, x, rfl, by decide, by decide⟩
    · rw [if_neg hn]
      by_cases h0 : 0 ≤ v.heap
      · rw [if_pos h0]; exact ⟨99, x, rfl, by decide, by decide⟩
      · rw [if_neg h0]
        unfold wHeap at hx
        rw [if_neg h0] at hx
        cases hf : find v.heap absI 0 with
        | none => rw [hf] at hx; cases hx
        | some j =>
          rw [hf] at hx
          have hj := (ua1 v.heap (by omega) j hf).1
          cases hx
          refine ⟨UInt8.ofNat (105 + j), [], rfl, ?_, ?_⟩ <;> rw [u21 (by omega)] <;> omega
  · rw [if_neg h5] at h
    split at h
    · rename_i hc
      cases h
      refine ⟨UInt8.ofNat (128 - v.num).toNat, [], rfl, ?_, ?_⟩ <;> rw [u21 (by omega)] <;> omega
    · cases h
theorem us1 : Back rBlock wBlock := by
  intro v u h b p ha
  obtain ⟨ty, res⟩ := v
  unfold wBlock at h
  unfold rBlock
  by_cases h0 : 0 ≤ ty
  · rw [if_pos h0] at h
    split at h
    · rename_i hc
      obtain ⟨hc1, hc2⟩ := hc
      have hc1 : res = ⟨0, false, 0⟩ := hc1
      have hc2 : ty ≤ 2147483647 := hc2
      subst hc1
      cases h
      obtain ⟨c, r, hu, hh⟩ := ul4 h0
      have hb := uqn h0 hc2 ha
      simp only at ha hb ⊢
      rw [hu] at ha
      obtain ⟨g1, g2, g3⟩ := u6b ha
      rw [if_pos g1, g2, if_neg (by omega), if_neg (by omega), hb]
    · cases h
  · rw [if_neg h0] at h
    by_cases h1 : ty < -1
    · rw [if_pos h1] at h; cases h
    · rw [if_neg h1] at h
      have ht : ty = -1 := by omega
      subst ht
      by_cases h2 : res = ⟨0, false, 0⟩
      · rw [if_pos h2] at h
        subst h2
        cases h
        obtain ⟨g1, g2, g3⟩ := u6b ha
        rw [if_pos g1, g2, if_pos (by decide)]
        rfl
      · rw [if_neg h2] at h
        obtain ⟨c, r, rfl, c1, c2⟩ := uw1 h
        have hb := upn _ _ h b p ha
        obtain ⟨g1, g2, g3⟩ := u6b ha
        rw [if_pos g1, g2, if_neg (by omega), if_pos ⟨c1, c2⟩, hb]
theorem uo9 : Least rBlock wBlock := by
  intro b p v q h
  unfold rBlock at h
  split at h
  · split at h
    · simp only [Rs.ok.injEq] at h
      obtain ⟨rfl, rfl⟩ := h
      exact ⟨[64], rfl, by simp⟩
    · split at h
      · cases hr : rVal b p with
        | ok w r =>
          rw [hr] at h
          simp only [Rs.ok.injEq] at h
          obtain ⟨rfl, rfl⟩ := h
          obtain ⟨u, h1, h2⟩ := umc _ _ _ _ hr
          refine ⟨u, ?_, h2⟩
          have hne : w ≠ ⟨0, false, 0⟩ := by
            rintro rfl
            cases h1
          unfold wBlock
          rw [if_neg (by show ¬ (0 : Int) ≤ -1; decide), if_neg (by show ¬ (-1 : Int) < -1; decide), if_neg hne]
          exact h1
        | err a w => rw [hr] at h; cases h
      · cases hr : rS33 b p with
        | ok n r =>
          rw [hr] at h
          simp only [Rs.ok.injEq] at h
          obtain ⟨rfl, rfl⟩ := h
          have hr' := hr
          unfold rS33 at hr'
          cases hs : rdS b 33 b.length p with
          | ok m r' =>
            rw [hs] at hr'
            simp only at hr'
            by_cases g1 : m < 0
            · rw [if_pos g1] at hr'; cases hr'
            · rw [if_neg g1] at hr'
              by_cases g2 : 2147483647 < m
              · rw [if_pos g2] at hr'; cases hr'
              · rw [if_neg g2] at hr'
                simp only [Rs.ok.injEq] at hr'
                obtain ⟨rfl, rfl⟩ := hr'
                refine ⟨putS m, ?_, ucb (by decide) (by decide) hs⟩
                unfold wBlock
                rw [if_pos (show (0 : Int) ≤ m by omega), if_pos ⟨rfl, show m ≤ 2147483647 by omega⟩]
          | err a w => rw [hs] at hr'; cases hr'
        | err a w => rw [hr] at h; cases h
  · cases h
end Go.Proofs.YthidcpkcfoldmaaGreat.Pi.Q
namespace Go.Proofs.YthidcpkcfoldmaaGreat.Pi.Q
open Go Go.Proofs.YthidcpkcfoldmaaGreat.Pi
def Good {α : Type} (one : List UInt8 → TS → α × TS) (v : α) (u : List UInt8) : Prop := ∀ b t, At b t.p u → t.why = 0 → one b t = (v, ⟨t.p + u.length, t.bad, 0⟩)
def Lst {α : Type} (one : List UInt8 → TS → α × TS) (w : α → List UInt8 → Prop) : Prop := ∀ b t, (one b t).2.why = 0 → t.why = 0 ∧ ∃ u, w (one b t).1 u ∧ t.p + u.length ≤ (one b t).2.p
theorem ud5 {α : Type} {zero : α} {r : List UInt8 → Nat → Rs α} {v : α} {u : List UInt8} (h : ∀ b p, At b p u → r b p = .ok v (p + u.length)) : Good (fun b => tk zero (r b)) v u := by
  intro b t ha h0
  show tk zero (r b) t = _
  unfold tk
  rw [if_pos h0, h b t.p ha]
theorem tk_lst {α : Type} {zero : α} {r : List UInt8 → Nat → Rs α} {w : α → List UInt8 → Prop} (he : ∀ b p a k, r b p = .err a k → k ≠ 0) (h : ∀ b p v q, r b p = .ok v q → ∃ u, w v u ∧ p + u.length ≤ q) : Lst (fun b => tk zero (r b)) w := by
  intro b t h0
  have h0 : (tk zero (r b) t).2.why = 0 := h0
  have ht := tk_ok h0
  refine ⟨ht, ?_⟩
  show ∃ u, w (tk zero (r b) t).1 u ∧ t.p + u.length ≤ (tk zero (r b) t).2.p
  unfold tk at h0 ⊢
  rw [if_pos ht] at h0 ⊢
  cases hr : r b t.p with
  | ok v q => exact h b t.p v q hr
  | err a k => rw [hr] at h0; exact absurd h0 (he b t.p a k hr)
theorem Lst.mono {α : Type} {one : List UInt8 → TS → α × TS} {w w' : α → List UInt8 → Prop} (h : Lst one w) (g : ∀ v u, w v u → w' v u) : Lst one w' := fun b t h0 => by
  obtain ⟨h1, u, h2, h3⟩ := h b t h0
  exact ⟨h1, u, g _ _ h2, h3⟩
def wU (B v : Nat) (u : List UInt8) : Prop := v < 2 ^ B ∧ u = putU v
theorem U_good {B v : Nat} (hB : 0 < B) (hB' : B ≤ 64) (hv : v < 2 ^ B) : Good (fun b => tk (0 : Nat) (rdU b B b.length)) v (putU v) := ud5 (r := fun b => rdU b B b.length) fun b p ha => uz3 ha hB hB' hv
theorem U_lst {B : Nat} (hB : B % 7 ≠ 0) (hB' : 0 < B) : Lst (fun b => tk (0 : Nat) (rdU b B b.length)) (wU B) :=
  tk_lst (r := fun b => rdU b B b.length) (fun b p a k h => unb h) fun b p v q h => ⟨putU v, ⟨(unj hB 10 0 0 p (by omega) (by decide) v q h).1, rfl⟩, uu7 h⟩
def wS (B : Nat) (v : Int) (u : List UInt8) : Prop := -(2 ^ (B - 1) : Nat) ≤ v ∧ v < (2 ^ (B - 1) : Nat) ∧ u = putS v
theorem S_good {B : Nat} {v : Int} (hB : 0 < B) (hB' : B ≤ 64) (h0 : -(2 ^ (B - 1) : Nat) ≤ v) (h1 : v < (2 ^ (B - 1) : Nat)) : Good (fun b => tk (0 : Int) (rdS b B b.length)) v (putS v) := ud5 (r := fun b => rdS b B b.length) fun b p ha => uva ha hB hB' h0 h1
theorem lebS32 {b : List UInt8} {e : Nat} : ∀ (f i n p : Nat), i ≤ 4 → n < 2 ^ (7 * i) → ∀ v q, lebS b 32 e f i n p = .ok v q → -2147483648 ≤ v ∧ v < 2147483648
  | 0, i, n, p, hi, hn, v, q, h => by cases h
  | f + 1, i, n, p, hi, hn, v, q, h => by
    have hc : (b.getD p 0).toNat < 256 := (b.getD p 0).toNat_lt
    have ih := fun n' => lebS32 (b := b) (e := e) f (i + 1) n' (p + 1)
    unfold lebS at h
    simp only at h
    generalize (b.getD p 0).toNat = c at h hc
    split at h
    · by_cases hg : 32 < 7 * i + 7 ∧ ¬ okS (32 - 7 * i) c
      · rw [if_pos hg] at h; cases h
      · rw [if_neg hg] at h
        by_cases h1 : c < 128
        · rw [if_pos h1] at h
          simp only [Rs.ok.injEq] at h
          obtain ⟨rfl, rfl⟩ := h
          have hh : i = 0 ∨ i = 1 ∨ i = 2 ∨ i = 3 ∨ i = 4 := by omega
          unfold lastS
          rcases hh with rfl | rfl | rfl | rfl | rfl
          · simp only [Nat.mul_zero, Nat.pow_zero, Nat.reducePow, Nat.reduceMul] at hn ⊢
            rw [w_i64 (by split <;> omega)]
            split <;> omega
          · simp only [Nat.reducePow, Nat.reduceMul] at hn ⊢
            rw [w_i64 (by split <;> omega)]
            split <;> omega
          · simp only [Nat.reducePow, Nat.reduceMul] at hn ⊢
            rw [w_i64 (by split <;> omega)]
            split <;> omega
          · simp only [Nat.reducePow, Nat.reduceMul] at hn ⊢
            rw [w_i64 (by split <;> omega)]
            split <;> omega
          · have ho : okS 4 c := Classical.byContradiction fun g => hg ⟨by decide, g⟩
            unfold okS at ho
            simp only [Nat.reducePow, Nat.reduceMul, Nat.reduceSub] at hn ho ⊢
            rw [w_i64 (by split <;> omega)]
            split <;> omega
        · rw [if_neg h1] at h
          by_cases h4 : i = 4
          · subst h4
            have ho : okS 4 c := Classical.byContradiction fun g => hg ⟨by decide, g⟩
            exact absurd ho.1 h1
          · refine ih _ (by omega) ?_ v q h
            have : c % 128 < 128 := Nat.mod_lt _ (by decide)
            have e : 2 ^ (7 * (i + 1)) = 2 ^ (7 * i) * 128 := pow7 i
            rw [e]
            have : c % 128 * 2 ^ (7 * i) ≤ 127 * 2 ^ (7 * i) := Nat.mul_le_mul_right _ (by omega)
            omega
    · cases h
theorem uz1 : Lst (fun b => tk (0 : Int) (rdS b 32 b.length)) (wS 32) :=
  tk_lst (r := fun b => rdS b 32 b.length) (fun b p a k h => ucn h) fun b p v q h => by
    have := lebS32 10 0 0 p (by decide) (by decide) v q h
    exact ⟨putS v, ⟨by simp only [Nat.reduceSub, Nat.reducePow]; omega, by simp only [Nat.reduceSub, Nat.reducePow]; omega, rfl⟩, ucb (by decide) (by decide) h⟩
theorem uzs : Lst (fun b => tk (0 : Int) (rdS b 64 b.length)) (wS 64) :=
  tk_lst (r := fun b => rdS b 64 b.length) (fun b p a k h => ucn h) fun b p v q h => by
    have := rdS_lt h
    exact ⟨putS v, ⟨by simp only [Nat.reduceSub, Nat.reducePow]; omega, by simp only [Nat.reduceSub, Nat.reducePow]; omega, rfl⟩, ucb (by decide) (by decide) h⟩
theorem uql {b : List UInt8} {p v : Nat} : ∀ (i n : Nat), (∀ j, j < i → (b.getD (p + j) 0).toNat = v / 256 ^ j % 256) → fixN b p i n = n * 256 ^ i + v % 256 ^ i
  | 0, n, h => by simp [fixN, Nat.mod_one]
  | i + 1, n, h => by
    rw [fixN, uql i _ (fun j hj => h j (by omega)), h i (by omega), Nat.mod_pow_succ, Nat.pow_succ]
    have e1 : (n * 256 + v / 256 ^ i % 256) * 256 ^ i = n * 256 * 256 ^ i + v / 256 ^ i % 256 * 256 ^ i := Nat.add_mul ..
    have e2 : n * (256 ^ i * 256) = n * 256 * 256 ^ i := by rw [Nat.mul_comm (256 ^ i), Nat.mul_assoc]
    have e3 : 256 ^ i * (v / 256 ^ i % 256) = v / 256 ^ i % 256 * 256 ^ i := Nat.mul_comm ..
    omega
theorem uut {v : Nat} : (iByte (v : Int)).toNat = v % 256 := by
  unfold iByte
  have e : IntKind.u8.wrap (v : Int) = ((v % 256 : Nat) : Int) := by rw [IntKind.wrap_u8]; omega
  rw [e, Int.toNat_natCast]
  exact u21 (by omega)
theorem uuq {b : List UInt8} : ∀ (k v p : Nat), At b p (fixL k v) → ∀ j, j < k → (b.getD (p + j) 0).toNat = v / 256 ^ j % 256
  | 0, v, p, h, j, hj => by omega
  | k + 1, v, p, h, j, hj => by
    obtain ⟨g1, g2, g3⟩ := u6b h
    rw [show (v : Int) / 256 = ((v / 256 : Nat) : Int) by omega] at g3
    cases j with
    | zero => rw [Nat.add_zero, g2, uut]; simp
    | succ j =>
      have := uuq k (v / 256) (p + 1) g3 j (by omega)
      rw [show p + (j + 1) = p + 1 + j by omega, this, Nat.pow_succ, Nat.mul_comm, Nat.div_div_eq_div_mul]
def wF (k v : Nat) (u : List UInt8) : Prop := v < 256 ^ k ∧ u = fixL k v
theorem F_good {k v : Nat} (hv : v < 256 ^ k) : Good (fun b => tk (0 : Nat) (rdF b k b.length)) v (fixL k v) := ud5 (r := fun b => rdF b k b.length) fun b p ha => by
  have hl := at_le ha
  rw [uiv] at hl ⊢
  unfold rdF
  rw [if_neg (by omega), uql k 0 (uuq k v p ha), Nat.zero_mul, Nat.zero_add, Nat.mod_eq_of_lt hv]
theorem F_lst {k : Nat} : Lst (fun b => tk (0 : Nat) (rdF b k b.length)) (wF k) :=
  tk_lst (r := fun b => rdF b k b.length) (fun b p a k h => unq h) fun b p v q h => by
    have := rdF_lt h
    exact ⟨fixL k v, ⟨this.1, rfl⟩, by rw [uiv]; omega⟩
def wSm (most v : Nat) (u : List UInt8) : Prop := v ≤ most ∧ u = [UInt8.ofNat v]
theorem ujz {most v : Nat} (hm : most < 256) (hv : v ≤ most) : Good (fun b => smT b most) v [UInt8.ofNat v] := by
  intro b t ha h0
  obtain ⟨g1, g2, g3⟩ := u6b ha
  show smT b most t = _
  unfold smT
  rw [if_pos h0, if_pos g1, g2, u21 (by omega), if_neg (by omega)]
  rfl
theorem Sm_lst {most : Nat} : Lst (fun b => smT b most) (wSm most) := by
  intro b t h0
  have h0 : (smT b most t).2.why = 0 := h0
  show t.why = 0 ∧ ∃ u, wSm most (smT b most t).1 u ∧ t.p + u.length ≤ (smT b most t).2.p
  unfold smT at h0 ⊢
  by_cases h1 : t.why = 0
  · rw [if_pos h1] at h0 ⊢
    by_cases h2 : t.p < b.length
    · rw [if_pos h2] at h0 ⊢
      by_cases h3 : most < (b.getD t.p 0).toNat
      · rw [if_pos h3] at h0; exact absurd h0 (by exact (by decide : ¬ (4 : Nat) = 0))
      · rw [if_neg h3]
        exact ⟨h1, _, ⟨Nat.le_of_not_lt h3, rfl⟩, Nat.le_refl _⟩
    · rw [if_neg h2] at h0; exact absurd h0 (by exact (by decide : ¬ (3 : Nat) = 0))
  · rw [if_neg h1] at h0; exact absurd h0 h1
def wUp (most v : Nat) (u : List UInt8) : Prop := v ≤ most ∧ u = putU v
theorem v00j {most e v : Nat} (hm : most < 2 ^ 32) (hv : v ≤ most) : Good (fun b => upT b most e) v (putU v) := by
  intro b t ha h0
  have h := U_good (B := 32) (v := v) (by decide) (by decide) (by omega) b t ha h0
  have h : tk (0 : Nat) (rdU b 32 b.length) t = _ := h
  show upT b most e t = _
  unfold upT
  rw [h, if_neg (fun g => by have := g.2; simp only at this; omega)]
theorem Up_lst {most e : Nat} (he : e ≠ 0) : Lst (fun b => upT b most e) (wUp most) := by
  intro b t h0
  have h0 : (upT b most e t).2.why = 0 := h0
  show t.why = 0 ∧ ∃ u, wUp most (upT b most e t).1 u ∧ t.p + u.length ≤ (upT b most e t).2.p
  unfold upT at h0 ⊢
  by_cases hc : (tk (0 : Nat) (rdU b 32 b.length) t).2.why = 0 ∧ most < (tk (0 : Nat) (rdU b 32 b.length) t).1
  · rw [if_pos hc] at h0; exact absurd h0 he
  · rw [if_neg hc] at h0 ⊢
    obtain ⟨h1, u, ⟨h2, h3⟩, h4⟩ := U_lst (B := 32) (by decide) (by decide) b t h0
    exact ⟨h1, u, ⟨by omega, h3⟩, h4⟩
theorem H_good {h : Int} {u : List UInt8} (hu : wHeap h = .ok u) : Good (fun b => tk (0 : Int) (rHeap b)) h u := ud5 (r := rHeap) (ugt h u hu)
theorem H_lst : Lst (fun b => tk (0 : Int) (rHeap b)) (fun v u => wHeap v = .ok u) := tk_lst (r := rHeap) (fun b p a k h => ufc h) uha
theorem V_good {v : VT} {u : List UInt8} (hu : wVal v = .ok u) : Good (fun b => tk valZ (rVal b)) v u := ud5 (r := rVal) (upn v u hu)
theorem V_lst : Lst (fun b => tk valZ (rVal b)) (fun v u => wVal v = .ok u) := tk_lst (r := rVal) (fun b p a k h => uiq h) umc
theorem B_good {v : BK} {u : List UInt8} (hu : wBlock v = .ok u) : Good (fun b => tk (⟨0, ⟨0, false, 0⟩⟩ : BK) (rBlock b)) v u := ud5 (r := rBlock) (us1 v u hu)
theorem B_lst : Lst (fun b => tk (⟨0, ⟨0, false, 0⟩⟩ : BK) (rBlock b)) (fun v u => wBlock v = .ok u) := tk_lst (r := rBlock) (fun b p a k h => uhy h) uo9
def AllW {α : Type} (w : α → List UInt8 → Prop) : List α → List UInt8 → Prop
  | [], u => u = []
  | v :: l, u => ∃ x y, w v x ∧ AllW w l y ∧ u = x ++ y
theorem ulm {α : Type} {one : List UInt8 → TS → α × TS} {w : α → List UInt8 → Prop} (hg : ∀ v u, w v u → Good one v u) {b : List UInt8} : ∀ (l l0 : List α) (u : List UInt8) (t : TS), AllW w l u → At b t.p u → t.why = 0 → repE (one b) l.length l0 t = (l0 ++ l, ⟨t.p + u.length, t.bad, 0⟩)
  | [], l0, u, t, h, ha, h0 => by
    cases h
    obtain ⟨p, bad, why⟩ := t
    cases h0
    simp [repE]
  | v :: l, l0, u, t, h, ha, h0 => by
    obtain ⟨x, y, h1, h2, rfl⟩ := h
    obtain ⟨a1, a2⟩ := u2i ha
    have e := hg v x h1 b t a1 h0
    have ih := ulm hg (b := b) l (l0 ++ [v]) y ⟨t.p + x.length, t.bad, 0⟩ h2 a2 rfl
    rw [List.length_cons, repE, if_pos h0, e]
    simp only
    rw [ih, List.length_append, List.append_assoc]
    simp only [List.cons_append, List.nil_append, Nat.add_assoc]
theorem ue4 {α : Type} {one : List UInt8 → TS → α × TS} {w : α → List UInt8 → Prop} (hl : Lst one w) {b : List UInt8} : ∀ (n : Nat) (l0 : List α) (t : TS), (repE (one b) n l0 t).2.why = 0 → t.why = 0 ∧ ∃ l u, (repE (one b) n l0 t).1 = l0 ++ l ∧ l.length = n ∧ AllW w l u ∧ t.p + u.length ≤ (repE (one b) n l0 t).2.p
  | 0, l0, t, h => ⟨h, [], [], by simp [repE], rfl, rfl, by simp [repE]⟩
  | n + 1, l0, t, h => by
    by_cases h0 : t.why = 0
    · rw [repE, if_pos h0] at h ⊢
      obtain ⟨g0, l, u, g1, g2, g3, g4⟩ := ue4 hl (b := b) n (l0 ++ [(one b t).1]) (one b t).2 h
      obtain ⟨k0, x, k1, k2⟩ := hl b t g0
      refine ⟨h0, (one b t).1 :: l, x ++ u, by rw [g1, List.append_assoc]; rfl, by rw [List.length_cons, g2], ⟨x, u, k1, g3, rfl⟩, ?_⟩
      rw [List.length_append]
      omega
    · rw [uo4 h0] at h; exact absurd h h0
end Go.Proofs.YthidcpkcfoldmaaGreat.Pi.Q
namespace Go.Proofs.YthidcpkcfoldmaaGreat.Pi.Q
open Go Go.Proofs.YthidcpkcfoldmaaGreat.Pi
abbrev wV (v : VT) (u : List UInt8) : Prop := wVal v = .ok u
def tagU (v : CN) : List UInt8 := if v.1 < 2 then putU v.2.1 else []
def wCl (v : CN) (u : List UInt8) : Prop := v.1 ≤ 3 ∧ v.2.1 < 2 ^ 32 ∧ v.2.2 < 2 ^ 32 ∧ (2 ≤ v.1 → v.2.1 = 0) ∧ u = [UInt8.ofNat v.1] ++ (tagU v ++ putU v.2.2)
theorem uzy {v : CN} {u : List UInt8} (h : wCl v u) : Good clT v u := by
  intro b t ha h0
  obtain ⟨k, g, l⟩ := v
  obtain ⟨h1, h2, h3, h4, rfl⟩ := h
  simp only at h1 h2 h3 h4 ha ⊢
  obtain ⟨a1, a2⟩ := u2i ha
  obtain ⟨a3, a4⟩ := u2i a2
  have e1 : smT b 3 t = _ := ujz (by decide) h1 b t a1 h0
  unfold clT
  have et : tagT b t = (g, ⟨t.p + 1 + (tagU (k, g, l)).length, t.bad, 0⟩) := by
    unfold tagT
    rw [e1]
    unfold tagU at a3 ⊢
    by_cases hk : k < 2
    · simp only [if_pos hk] at a3 ⊢
      exact U_good (B := 32) (by decide) (by decide) h2 b ⟨t.p + 1, t.bad, 0⟩ a3 rfl
    · simp only [if_neg hk, List.length_nil, Nat.add_zero]
      rw [h4 (by omega)]
      rfl
  have e2 : tk (0 : Nat) (rdU b 32 b.length) ⟨t.p + 1 + (tagU (k, g, l)).length, t.bad, 0⟩ = _ := U_good (B := 32) (by decide) (by decide) h3 b ⟨t.p + 1 + (tagU (k, g, l)).length, t.bad, 0⟩ a4 rfl
  rw [et, e1]
  simp only
  rw [e2]
  simp only [List.length_append, List.length_cons, List.length_nil, Nat.add_assoc, Nat.zero_add]
theorem Cl_lst : Lst clT wCl := by
  intro b t h0
  have h0 : (clT b t).2.why = 0 := h0
  show t.why = 0 ∧ ∃ u, wCl (clT b t).1 u ∧ t.p + u.length ≤ (clT b t).2.p
  unfold clT at h0 ⊢
  simp only at h0 ⊢
  obtain ⟨g0, z, ⟨z1, rfl⟩, z2⟩ := U_lst (B := 32) (by decide) (by decide) b _ h0
  have gt : (tagT b t).2.why = 0 := g0
  unfold tagT at gt
  by_cases hk : (smT b 3 t).1 < 2
  · have et : tagT b t = tk (0 : Nat) (rdU b 32 b.length) (smT b 3 t).2 := by unfold tagT; rw [if_pos hk]
    rw [if_pos hk] at gt
    obtain ⟨g1, y, ⟨y1, rfl⟩, y2⟩ := U_lst (B := 32) (by decide) (by decide) b _ gt
    obtain ⟨g2, x, ⟨x1, rfl⟩, x2⟩ := Sm_lst (most := 3) b t g1
    rw [et] at z1 z2 ⊢
    refine ⟨g2, _, ⟨x1, y1, z1, fun h => by omega, rfl⟩, ?_⟩
    unfold tagU
    simp only [if_pos hk, List.length_append]
    simp only at x2 y2 z2
    omega
  · have et : tagT b t = (0, (smT b 3 t).2) := by unfold tagT; rw [if_neg hk]
    rw [if_neg hk] at gt
    obtain ⟨g2, x, ⟨x1, rfl⟩, x2⟩ := Sm_lst (most := 3) b t gt
    rw [et] at z1 z2 ⊢
    refine ⟨g2, _, ⟨x1, (by decide : (0 : Nat) < 2 ^ 32), z1, fun h => rfl, rfl⟩, ?_⟩
    unfold tagU
    simp only [if_neg hk, List.length_append, List.length_nil]
    simp only at x2 z2
    omega
def wBody (k : Nat) (v : II) (u : List UInt8) : Prop :=
  match k with
  | 1 => v = { op := v.op } ∧ u = []
  | 2 => ∃ r, v = { op := v.op, blk := r } ∧ wBlock r = .ok u
  | 3 => ∃ r l x y, v = { op := v.op, blk := r, ca := l } ∧ wBlock r = .ok x ∧ l.length ≤ 65536 ∧ AllW wCl l y ∧ u = x ++ (putU l.length ++ y)
  | 4 => ∃ n : Nat, v = { op := v.op, x := n } ∧ n < 2 ^ 32 ∧ u = putU n
  | 5 => ∃ n m : Nat, v = { op := v.op, x := n, y := m } ∧ n < 2 ^ 32 ∧ m < 2 ^ 32 ∧ u = putU n ++ putU m
  | 6 => ∃ (n : Nat) (l : List Nat) (y : List UInt8), v = { op := v.op, x := n, la := l } ∧ l.length ≤ 65536 ∧ AllW (wU 32) l y ∧ n < 2 ^ 32 ∧ u = putU l.length ++ (y ++ putU n)
  | 7 => ∃ l y, v = { op := v.op, ty := l } ∧ l.length ≤ 1000 ∧ AllW wV l y ∧ u = putU l.length ++ y
  | 8 => ∃ a m o : Nat, v = { op := v.op, al := a, me := m, off := o } ∧ a < 64 ∧ m < 2 ^ 32 ∧ o < 2 ^ 64 ∧ u = (if m = 0 then putU a else putU (a + 64) ++ putU m) ++ putU o
  | 9 => ∃ n : Int, v = { op := v.op, n := IntKind.u64.wrap (IntKind.u32.wrap (IntKind.i32.wrap n)) } ∧ wS 32 n u
  | 10 => ∃ n : Int, v = { op := v.op, n := IntKind.u64.wrap n } ∧ wS 64 n u
  | 11 => ∃ n : Nat, v = { op := v.op, n := n } ∧ wF 4 n u
  | 12 => ∃ n : Nat, v = { op := v.op, n := n } ∧ wF 8 n u
  | 13 => ∃ h, v = { op := v.op, ty := [⟨5, true, h⟩] } ∧ wHeap h = .ok u
  | 14 => ∃ h, v = { op := v.op, ty := [⟨5, (v.op % 2 == 1), h⟩] } ∧ wHeap h = .ok u
  | 15 => ∃ (c n : Nat) (h g : Int) (x y : List UInt8), v = { op := v.op, x := n, ty := [⟨5, (c % 2 != 0), h⟩, ⟨5, (c / 2 % 2 * 2 != 0), g⟩] } ∧ c ≤ 3 ∧ n < 2 ^ 32 ∧ wHeap h = .ok x ∧ wHeap g = .ok y ∧ u = [UInt8.ofNat c] ++ (putU n ++ (x ++ y))
  | 16 => ∃ n m : Nat, v = { op := v.op, x := n, n := m } ∧ n < 2 ^ 32 ∧ m < 2 ^ 32 ∧ u = putU n ++ putU m
  | _ => False
variable {b : List UInt8} {t : TS} {op : Nat} {v : II} {u : List UInt8}
theorem U_at {n : Nat} (hn : n < 2 ^ 32) (ha : At b t.p (putU n)) (h0 : t.why = 0) : tk (0 : Nat) (rdU b 32 b.length) t = (n, ⟨t.p + (putU n).length, t.bad, 0⟩) := U_good (B := 32) (by decide) (by decide) hn b t ha h0
theorem U64_at {n : Nat} (hn : n < 2 ^ 64) (ha : At b t.p (putU n)) (h0 : t.why = 0) : tk (0 : Nat) (rdU b 64 b.length) t = (n, ⟨t.p + (putU n).length, t.bad, 0⟩) := U_good (B := 64) (by decide) (by decide) hn b t ha h0
theorem Up_at {most e n : Nat} (hm : most < 2 ^ 32) (hn : n ≤ most) (ha : At b t.p (putU n)) (h0 : t.why = 0) : upT b most e t = (n, ⟨t.p + (putU n).length, t.bad, 0⟩) := v00j hm hn b t ha h0
theorem H_at {h : Int} {x : List UInt8} (hx : wHeap h = .ok x) (ha : At b t.p x) (h0 : t.why = 0) : tk (0 : Int) (rHeap b) t = (h, ⟨t.p + x.length, t.bad, 0⟩) := H_good hx b t ha h0
theorem B_at {r : BK} {x : List UInt8} (hx : wBlock r = .ok x) (ha : At b t.p x) (h0 : t.why = 0) : tk (⟨0, ⟨0, false, 0⟩⟩ : BK) (rBlock b) t = (r, ⟨t.p + x.length, t.bad, 0⟩) := B_good hx b t ha h0
theorem ufm {α : Type} {one : List UInt8 → TS → α × TS} {w : α → List UInt8 → Prop} (hg : ∀ v u, w v u → Good one v u) {l : List α} {y : List UInt8} (hl : AllW w l y) (ha : At b t.p y) (h0 : t.why = 0) : repE (one b) l.length [] t = (l, ⟨t.p + y.length, t.bad, 0⟩) := ulm hg l [] y t hl ha h0
theorem uvw {k : Nat} (hw : wBody k v u) (ha : At b t.p u) (h0 : t.why = 0) (ho : v.op = op) : immI k op b t = v ∧ (imm k op b t).2 = ⟨t.p + u.length, t.bad, 0⟩ := by
  unfold wBody at hw
  split at hw
  · obtain ⟨hv, rfl⟩ := hw
    rw [hv, ho]
    obtain ⟨p, bad, why⟩ := t
    cases h0
    exact ⟨rfl, rfl⟩
  · obtain ⟨r, hv, hr⟩ := hw
    have e := B_at hr ha h0
    rw [hv, ho]
    simp only [immI, imm, e, and_self]
  · obtain ⟨r, l, x, y, hv, hr, hl, hy, rfl⟩ := hw
    obtain ⟨a1, a2⟩ := u2i ha
    obtain ⟨a3, a4⟩ := u2i a2
    have e1 := B_at hr a1 h0
    have e2 := Up_at (e := 2) (t := ⟨t.p + x.length, t.bad, 0⟩) (most := 65536) (by decide) hl a3 rfl
    have e3 := ufm (t := ⟨t.p + x.length + (putU l.length).length, t.bad, 0⟩) (fun v u h => uzy h) hy a4 rfl
    have e4 := repC_E (one := clT b) l.length [] ⟨t.p + x.length + (putU l.length).length, t.bad, 0⟩ (.inl rfl)
    rw [e3] at e4
    have e5 : (repC (clT b) l.length [] (⟨t.p + x.length + (putU l.length).length, t.bad, 0⟩ : TS)).2 = _ := e4.1.symm
    have e6 := e4.2 (by rw [e5])
    rw [hv, ho]
    simp only [immI, imm, e1, e2, e5, ← e6]
    simp only [List.length_append, List.length_cons, List.length_nil, Nat.zero_add, Nat.add_assoc, Int.ofNat_zero, true_and, and_self]
  · obtain ⟨n, hv, hn, rfl⟩ := hw
    have e := U_at hn ha h0
    rw [hv, ho]
    simp only [immI, imm, e, and_self]
  · obtain ⟨n, m, hv, hn, hm, rfl⟩ := hw
    obtain ⟨a1, a2⟩ := u2i ha
    have e1 := U_at hn a1 h0
    have e2 := U_at (t := ⟨t.p + (putU n).length, t.bad, 0⟩) hm a2 rfl
    rw [hv, ho]
    simp only [immI, imm, e1, e2]
    simp only [List.length_append, List.length_cons, List.length_nil, Nat.zero_add, Nat.add_assoc, Int.ofNat_zero, true_and, and_self]
  · obtain ⟨n, l, y, hv, hl, hy, hn, rfl⟩ := hw
    obtain ⟨a1, a2⟩ := u2i ha
    obtain ⟨a3, a4⟩ := u2i a2
    have e2 := Up_at (e := 2) (most := 65536) (by decide) hl a1 h0
    have e3 := ufm (t := ⟨t.p + (putU l.length).length, t.bad, 0⟩) (one := fun b => tk (0 : Nat) (rdU b 32 b.length)) (fun v u h => by obtain ⟨h1, rfl⟩ := h; exact U_good (by decide) (by decide) h1) hy a3 rfl
    have e4 := repT_E (one := tk (0 : Nat) (rdU b 32 b.length)) l.length [] ⟨t.p + (putU l.length).length, t.bad, 0⟩ (.inl rfl)
    have e5 : (repT (tk (0 : Nat) (rdU b 32 b.length)) l.length [] (⟨t.p + (putU l.length).length, t.bad, 0⟩ : TS)).1 = (l, ⟨t.p + (putU l.length).length + y.length, t.bad, 0⟩) := e4.1.symm.trans e3
    have e6 : (repT (tk (0 : Nat) (rdU b 32 b.length)) l.length [] (⟨t.p + (putU l.length).length, t.bad, 0⟩ : TS)).2 = false := by
      cases hf : (repT (tk (0 : Nat) (rdU b 32 b.length)) l.length [] (⟨t.p + (putU l.length).length, t.bad, 0⟩ : TS)).2 with
      | false => rfl
      | true => exact absurd (by rw [e5]) (e4.2 hf)
    have e7 := U_at (t := ⟨t.p + (putU l.length).length + y.length, t.bad, 0⟩) hn a4 rfl
    rw [hv, ho]
    simp only [immI, imm, tabN, tabT, labR, e2, e5, e6, e7, Bool.false_eq_true, ↓reduceIte]
    simp only [List.length_append, List.length_cons, List.length_nil, Nat.zero_add, Nat.add_assoc, Int.ofNat_zero, true_and, and_self]
  · obtain ⟨l, y, hv, hl, hy, rfl⟩ := hw
    obtain ⟨a1, a2⟩ := u2i ha
    have e2 := Up_at (e := 2) (most := 1000) (by decide) hl a1 h0
    have e3 := ufm (t := ⟨t.p + (putU l.length).length, t.bad, 0⟩) (one := fun b => tk valZ (rVal b)) (fun v u h => V_good h) hy a2 rfl
    have e4 := repT_E (one := tk valZ (rVal b)) l.length [] ⟨t.p + (putU l.length).length, t.bad, 0⟩ (.inl rfl)
    have e5 : (repT (tk valZ (rVal b)) l.length [] (⟨t.p + (putU l.length).length, t.bad, 0⟩ : TS)).1 = (l, ⟨t.p + (putU l.length).length + y.length, t.bad, 0⟩) := e4.1.symm.trans e3
    rw [hv, ho]
    simp only [immI, imm, valR, e2, e5]
    simp only [List.length_append, List.length_cons, List.length_nil, Nat.zero_add, Nat.add_assoc, Int.ofNat_zero, true_and, and_self]
  · obtain ⟨a, m, o, hv, h1, h2, h3, rfl⟩ := hw
    obtain ⟨a1, a2⟩ := u2i ha
    rw [hv, ho]
    by_cases hm : m = 0
    · subst hm
      simp only [if_true] at a1 a2 ⊢
      have e1 := Up_at (e := 4) (most := 127) (n := a) (by decide) (by omega) a1 h0
      have e2 := U64_at (t := ⟨t.p + (putU a).length, t.bad, 0⟩) h3 a2 rfl
      have c1 : ¬ 63 < a := by omega
      have c2 : a % 64 = a := by omega
      simp only [immI, imm, memN, memT, memM, e1, if_neg c1, c2, e2]
      simp only [List.length_append, List.length_cons, List.length_nil, Nat.zero_add, Nat.add_assoc, Int.ofNat_zero, true_and, and_self]
    · simp only [if_neg hm] at a1 a2 ⊢
      obtain ⟨a3, a4⟩ := u2i a1
      have e1 := Up_at (e := 4) (most := 127) (n := a + 64) (by decide) (by omega) a3 h0
      have e2 := U_at (t := ⟨t.p + (putU (a + 64)).length, t.bad, 0⟩) h2 a4 rfl
      have e3 := U64_at (t := ⟨t.p + (putU (a + 64)).length + (putU m).length, t.bad, 0⟩) h3 (by rw [List.length_append, ← Nat.add_assoc] at a2; exact a2) rfl
      have c1 : 63 < a + 64 := by omega
      have c2 : (a + 64) % 64 = a := by omega
      simp only [immI, imm, memN, memT, memM, e1, if_pos c1, c2, e2, e3]
      simp only [List.length_append, List.length_cons, List.length_nil, Nat.zero_add, Nat.add_assoc, Int.ofNat_zero, true_and, and_self]
  · obtain ⟨n, hv, h1, h2, rfl⟩ := hw
    have e : tk (0 : Int) (rdS b 32 b.length) t = _ := S_good (B := 32) (by decide) (by decide) h1 h2 b t ha h0
    rw [hv, ho]
    simp only [immI, imm, e, and_self]
  · obtain ⟨n, hv, h1, h2, rfl⟩ := hw
    have e : tk (0 : Int) (rdS b 64 b.length) t = _ := S_good (B := 64) (by decide) (by decide) h1 h2 b t ha h0
    rw [hv, ho]
    simp only [immI, imm, e, and_self]
  · obtain ⟨n, hv, h1, rfl⟩ := hw
    have e : tk (0 : Nat) (rdF b 4 b.length) t = _ := F_good h1 b t ha h0
    rw [hv, ho]
    simp only [immI, imm, e, and_self]
  · obtain ⟨n, hv, h1, rfl⟩ := hw
    have e : tk (0 : Nat) (rdF b 8 b.length) t = _ := F_good h1 b t ha h0
    rw [hv, ho]
    simp only [immI, imm, e, and_self]
  · obtain ⟨h, hv, hh⟩ := hw
    have e := H_at hh ha h0
    rw [hv, ho]
    simp only [immI, imm, e, and_self]
  · obtain ⟨h, hv, hh⟩ := hw
    have e := H_at hh ha h0
    rw [hv, ho]
    simp only [immI, imm, e, and_self]
  · obtain ⟨c, n, h, g, x, y, hv, hc, hn, hx, hy, rfl⟩ := hw
    obtain ⟨a1, a2⟩ := u2i ha
    obtain ⟨a3, a4⟩ := u2i a2
    obtain ⟨a5, a6⟩ := u2i a4
    have e1 : smT b 3 t = _ := ujz (by decide) hc b t a1 h0
    simp only [List.length_cons, List.length_nil, Nat.zero_add] at a3 a5 a6 e1
    have e2 := U_at (t := ⟨t.p + 1, t.bad, 0⟩) hn a3 rfl
    have e3 := H_at (t := ⟨t.p + 1 + (putU n).length, t.bad, 0⟩) hx a5 rfl
    have e4 := H_at (t := ⟨t.p + 1 + (putU n).length + x.length, t.bad, 0⟩) hy a6 rfl
    rw [hv, ho]
    simp only [immI, imm, e1, e2, e3, e4]
    simp only [List.length_append, List.length_cons, List.length_nil, Nat.zero_add, Nat.add_assoc, Int.ofNat_zero, true_and, and_self]
  · obtain ⟨n, m, hv, hn, hm, rfl⟩ := hw
    obtain ⟨a1, a2⟩ := u2i ha
    have e1 := U_at hn a1 h0
    have e2 := U_at (t := ⟨t.p + (putU n).length, t.bad, 0⟩) hm a2 rfl
    rw [hv, ho]
    simp only [immI, imm, e1, e2]
    simp only [List.length_append, List.length_cons, List.length_nil, Nat.zero_add, Nat.add_assoc, Int.ofNat_zero, true_and, and_self]
  · exact hw.elim
end Go.Proofs.YthidcpkcfoldmaaGreat.Pi.Q
namespace Go.Proofs.YthidcpkcfoldmaaGreat.Pi.Q
open Go Go.Proofs.YthidcpkcfoldmaaGreat.Pi
variable {b : List UInt8} {t : TS} {op k : Nat} {v : II} {u : List UInt8}
theorem putU_1 {n : Nat} (h : n < 128) : (putU n).length = 1 := by
  rw [putU, if_pos h]
  rfl
theorem uxv (hk : k ≠ 0) (hk' : k < 17) (h0 : (imm k op b t).2.why = 0) : t.why = 0 ∧ ∃ u, wBody k (immI k op b t) u ∧ t.p + u.length ≤ (imm k op b t).2.p := by
  have h : k = 1 ∨ k = 2 ∨ k = 3 ∨ k = 4 ∨ k = 5 ∨ k = 6 ∨ k = 7 ∨ k = 8 ∨ k = 9 ∨ k = 10 ∨ k = 11 ∨ k = 12 ∨ k = 13 ∨ k = 14 ∨ k = 15 ∨ k = 16 := by omega
  rcases h with rfl | rfl | rfl | rfl | rfl | rfl | rfl | rfl | rfl | rfl | rfl | rfl | rfl | rfl | rfl | rfl <;> simp only [imm] at h0 <;> simp only [immI, imm, wBody]
  · exact ⟨h0, [], by simp, Nat.le_refl _⟩
  · obtain ⟨h1, u, h2, h3⟩ := B_lst b t h0
    exact ⟨h1, u, ⟨_, rfl, h2⟩, h3⟩
  · have e := repC_E (one := clT b) (upT b 65536 2 (tk (⟨0, ⟨0, false, 0⟩⟩ : BK) (rBlock b) t).2).1 [] (upT b 65536 2 (tk (⟨0, ⟨0, false, 0⟩⟩ : BK) (rBlock b) t).2).2 un4
    rw [← e.1] at h0
    have e2 := e.2 (by rw [← e.1]; exact h0)
    rw [← e.1, ← e2]
    obtain ⟨g0, l, y, g1, g2, g3, g4⟩ := ue4 Cl_lst _ _ _ h0
    obtain ⟨k0, z, ⟨k1, rfl⟩, k2⟩ := Up_lst (e := 2) (most := 65536) (by decide) b _ g0
    obtain ⟨j0, x, j1, j2⟩ := B_lst b t k0
    rw [List.nil_append] at g1
    simp only at k1 k2 j2
    refine ⟨j0, x ++ (putU l.length ++ y), ⟨_, l, x, y, by rw [g1], j1, by omega, g3, rfl⟩, ?_⟩
    rw [g2, List.length_append, List.length_append]
    omega
  · obtain ⟨h1, u, ⟨h2, rfl⟩, h3⟩ := U_lst (B := 32) (by decide) (by decide) b t h0
    exact ⟨h1, _, ⟨_, rfl, h2, rfl⟩, h3⟩
  · obtain ⟨g0, y, ⟨g1, rfl⟩, g2⟩ := U_lst (B := 32) (by decide) (by decide) b _ h0
    obtain ⟨h1, u, ⟨h2, rfl⟩, h3⟩ := U_lst (B := 32) (by decide) (by decide) b t g0
    refine ⟨h1, _, ⟨_, _, rfl, h2, g1, rfl⟩, ?_⟩
    rw [List.length_append]
    simp only at g2 h3
    omega
  · have e := repT_E (one := tk (0 : Nat) (rdU b 32 b.length)) (upT b 65536 2 t).1 [] (upT b 65536 2 t).2 un4
    have hf : (labR b (upT b 65536 2 t).1 [] (upT b 65536 2 t).2).2 = false := by
      cases hf : (labR b (upT b 65536 2 t).1 [] (upT b 65536 2 t).2).2 with
      | false => rfl
      | true =>
        unfold tabT at h0
        rw [if_pos hf] at h0
        exact absurd h0 (e.2 hf)
    unfold tabT at h0
    unfold tabN tabT
    simp only [hf, Bool.false_eq_true, ↓reduceIte] at h0 ⊢
    unfold labR at h0 ⊢
    rw [← e.1] at h0 ⊢
    obtain ⟨w0, z, ⟨w1, rfl⟩, w2⟩ := U_lst (B := 32) (by decide) (by decide) b _ h0
    obtain ⟨g0, l, y, g1, g2, g3, g4⟩ := ue4 (one := fun b => tk (0 : Nat) (rdU b 32 b.length)) (U_lst (B := 32) (by decide) (by decide)) _ _ _ w0
    obtain ⟨k0, x, ⟨k1, rfl⟩, k2⟩ := Up_lst (e := 2) (most := 65536) (by decide) b _ g0
    rw [List.nil_append] at g1
    simp only at w1 w2 g1 g4 k1 k2
    refine ⟨k0, putU l.length ++ (y ++ putU (tk (0 : Nat) (rdU b 32 b.length) (repE (tk (0 : Nat) (rdU b 32 b.length)) (upT b 65536 2 t).1 [] (upT b 65536 2 t).2).2).1), ⟨_, l, y, by rw [g1], by omega, g3, w1, rfl⟩, ?_⟩
    rw [g2, List.length_append, List.length_append]
    omega
  · have e := repT_E (one := tk valZ (rVal b)) (upT b 1000 2 t).1 [] (upT b 1000 2 t).2 un4
    unfold valR at h0 ⊢
    rw [← e.1] at h0 ⊢
    obtain ⟨g0, l, y, g1, g2, g3, g4⟩ := ue4 (one := fun b => tk valZ (rVal b)) V_lst _ _ _ h0
    obtain ⟨k0, x, ⟨k1, rfl⟩, k2⟩ := Up_lst (e := 2) (most := 1000) (by decide) b _ g0
    rw [List.nil_append] at g1
    simp only at g1 g4 k1 k2
    refine ⟨k0, putU l.length ++ y, ⟨l, y, by rw [g1], by omega, g3, rfl⟩, ?_⟩
    rw [g2, List.length_append]
    omega
  · obtain ⟨w0, z, ⟨w1, rfl⟩, w2⟩ := U_lst (B := 64) (by decide) (by decide) b _ h0
    simp only at w0 w1 w2
    unfold memT at w0 w1 w2
    unfold memN memT
    by_cases c1 : 63 < (upT b 127 4 t).1
    · simp only [if_pos c1] at w0 w1 w2 ⊢
      obtain ⟨g0, y, ⟨g1, rfl⟩, g2⟩ := U_lst (B := 32) (by decide) (by decide) b _ w0
      obtain ⟨k0, x, ⟨k1, rfl⟩, k2⟩ := Up_lst (e := 4) (most := 127) (by decide) b _ g0
      simp only at g1 g2 k1 k2
      have ea : (upT b 127 4 t).1 = (upT b 127 4 t).1 % 64 + 64 := by omega
      refine ⟨k0, _, ⟨_, _, _, rfl, by omega, g1, w1, rfl⟩, ?_⟩
      rw [List.length_append]
      have l1 := putU_1 (n := (upT b 127 4 t).1) (by omega)
      split
      · have l2 := putU_1 (n := (upT b 127 4 t).1 % 64) (by omega)
        omega
      · rw [← ea, List.length_append]
        omega
    · simp only [if_neg c1] at w0 w1 w2 ⊢
      obtain ⟨k0, x, ⟨k1, rfl⟩, k2⟩ := Up_lst (e := 4) (most := 127) (by decide) b _ w0
      simp only at k1 k2
      have ea : (upT b 127 4 t).1 % 64 = (upT b 127 4 t).1 := by omega
      rw [ea]
      refine ⟨k0, _, ⟨_, 0, _, rfl, by omega, by decide, w1, rfl⟩, ?_⟩
      rw [if_pos rfl, List.length_append]
      omega
  · obtain ⟨h1, u, h2, h3⟩ := uz1 b t h0
    exact ⟨h1, u, ⟨_, rfl, h2⟩, h3⟩
  · obtain ⟨h1, u, h2, h3⟩ := uzs b t h0
    exact ⟨h1, u, ⟨_, rfl, h2⟩, h3⟩
  · obtain ⟨h1, u, h2, h3⟩ := F_lst (k := 4) b t h0
    exact ⟨h1, u, ⟨_, rfl, h2⟩, h3⟩
  · obtain ⟨h1, u, h2, h3⟩ := F_lst (k := 8) b t h0
    exact ⟨h1, u, ⟨_, rfl, h2⟩, h3⟩
  · obtain ⟨h1, u, h2, h3⟩ := H_lst b t h0
    exact ⟨h1, u, ⟨_, rfl, h2⟩, h3⟩
  · obtain ⟨h1, u, h2, h3⟩ := H_lst b t h0
    exact ⟨h1, u, ⟨_, rfl, h2⟩, h3⟩
  · obtain ⟨j0, y, j1, j2⟩ := H_lst b _ h0
    obtain ⟨g0, x, g1, g2⟩ := H_lst b _ j0
    obtain ⟨w0, z, ⟨w1, rfl⟩, w2⟩ := U_lst (B := 32) (by decide) (by decide) b _ g0
    obtain ⟨k0, c, ⟨k1, rfl⟩, k2⟩ := Sm_lst (most := 3) b _ w0
    simp only at j1 j2 g1 g2 w1 w2 k1 k2
    refine ⟨k0, _, ⟨_, _, _, _, x, y, rfl, k1, w1, g1, j1, rfl⟩, ?_⟩
    rw [List.length_append, List.length_append, List.length_append]
    omega
  · obtain ⟨g0, y, ⟨g1, rfl⟩, g2⟩ := U_lst (B := 32) (by decide) (by decide) b _ h0
    obtain ⟨h1, u, ⟨h2, rfl⟩, h3⟩ := U_lst (B := 32) (by decide) (by decide) b t g0
    refine ⟨h1, _, ⟨_, _, rfl, h2, g1, rfl⟩, ?_⟩
    rw [List.length_append]
    simp only at g2 h3
    omega
def II.ig (v : II) : IG := ⟨v.op, v.x, v.y, v.n, ⟨v.al, v.me, v.off⟩, v.blk, ⟨true, 0, []⟩, ⟨true, 0, []⟩, false, ⟨true, v.la.map (fun n : Nat => (n : Int))⟩, ⟨true, v.ty⟩, ⟨true, v.ca.map fun c => ⟨c.1, c.2.1, c.2.2⟩⟩⟩
theorem utd : csII v = cs_IG v.ig := by
  unfold csII cs_IG II.ig
  simp only [utx, List.map_map]
  rfl
theorem ue6 {n : Nat} (h : n < 256) : iByte (n : Int) = UInt8.ofNat n := by
  unfold iByte
  rw [w_u8 (by omega), Int.toNat_natCast]
theorem ujh {α β : Type} {w : α → List UInt8 → Prop} {one : β → IW} {f : α → β} (h : ∀ v u, w v u → one (f v) = (u, false)) : ∀ (l : List α) (y : List UInt8), AllW w l y → iAll one (l.map f) = (y, false)
  | [], y, hy => by cases hy; rfl
  | v :: l, y, hy => by
    obtain ⟨x, z, h1, h2, rfl⟩ := hy
    rw [List.map_cons, iAll, h v x h1, ujh h l z h2]
    rfl
theorem utg {c : CN} (h : wCl c u) : iCatch ⟨c.1, c.2.1, c.2.2⟩ = (u, false) := by
  obtain ⟨k, g, l⟩ := c
  obtain ⟨h1, h2, h3, h4, rfl⟩ := h
  simp only at h1 h2 h3 h4
  unfold iCatch iTag u6t tagU
  simp only
  rw [ue6 (by omega), Int.toNat_natCast, Int.toNat_natCast]
  by_cases hk : k < 2
  · rw [if_pos (by omega), if_pos hk, decide_eq_true (by omega), decide_eq_true (by omega), decide_eq_true (by omega)]
    rfl
  · rw [if_neg (by omega), if_neg hk, h4 (by omega), decide_eq_true (by omega), decide_eq_true (by omega), decide_eq_false (by omega)]
    rfl
theorem iEnt_B {r : BK} (h : wBlock r = .ok u) : iEnt (eB r) = (u, false) := by unfold iEnt; rw [eB_w, h]; rfl
theorem uz2 {r : VT} (h : wVal r = .ok u) : iVal r = (u, false) := by unfold iVal; rw [eV_w, h]; rfl
theorem uim {n : Bool} {h : Int} (hh : wHeap h = .ok u) : iRef ⟨5, n, h⟩ = (u, false) := by unfold iRef; rw [eH_w, hh]; rfl
theorem um3 {α : Type} {one : α → IW} {a : α} {x : List UInt8} (ha : one a = (x, false)) : ∀ (l : List α) (y : List UInt8), iAll one l = (y, false) → iAll one (l ++ [a]) = (y ++ x, false)
  | [], y, hy => by cases hy; simp [iAll, ha, iCat]
  | v :: l, y, hy => by
    rw [iAll] at hy
    rw [List.cons_append, iAll]
    unfold iCat at hy ⊢
    simp only [Prod.mk.injEq, Bool.or_eq_false_iff] at hy
    obtain ⟨rfl, g1, g2⟩ := hy
    have e := um3 ha l (iAll one l).1 (Prod.ext rfl g2)
    rw [e, g1]
    simp
theorem uz8 {n : Int} (h0 : -9223372036854775808 ≤ n) (h1 : n ≤ 9223372036854775807) : IntKind.i64.wrap (IntKind.u64.wrap n) = n := by
  rw [IntKind.wrap_i64]
  have e : IntKind.u64.wrap n = n % 18446744073709551616 := by simp only [IntKind.wrap, IntKind.signed, IntKind.bits]; simp
  rw [e]
  omega
theorem uye (hw : wBody k v u) (ho : 0 ≤ v.op) : iBody k v.ig = (u, false) := by
  unfold wBody at hw
  split at hw
  · obtain ⟨hv, rfl⟩ := hw
    rfl
  · obtain ⟨r, hv, hr⟩ := hw
    rw [hv]
    exact iEnt_B hr
  · obtain ⟨r, l, x, y, hv, hr, hl, hy, rfl⟩ := hw
    rw [hv]
    have e1 := iEnt_B hr
    have e2 := ujh (f := fun c : CN => (⟨c.1, c.2.1, c.2.2⟩ : CH)) (fun c u h => utg h) l y hy
    unfold iBody iTry II.ig
    simp only
    rw [e1, e2, List.length_map, decide_eq_true (by omega)]
    rfl
  · obtain ⟨n, hv, hn, rfl⟩ := hw
    rw [hv]
    rfl
  · obtain ⟨n, m, hv, hn, hm, rfl⟩ := hw
    rw [hv]
    rfl
  · obtain ⟨n, l, y, hv, hl, hy, hn, rfl⟩ := hw
    rw [hv]
    have e2 := ujh (one := iNum) (f := fun n : Nat => (n : Int)) (fun c u h => by obtain ⟨_, rfl⟩ := h; rfl) l y hy
    have e3 := um3 (a := (n : Int)) (x := putU n) rfl _ _ e2
    unfold iBody uj6 II.ig
    simp only
    rw [e3, List.length_map, decide_eq_true (by omega)]
    rfl
  · obtain ⟨l, y, hv, hl, hy, rfl⟩ := hw
    rw [hv]
    have e2 := ujh (one := iVal) (f := fun c : VT => c) (fun c u h => uz2 h) l y hy
    rw [List.map_id'] at e2
    unfold iBody iTypes II.ig
    simp only
    rw [e2, decide_eq_true (by omega)]
    rfl
  · obtain ⟨a, m, o, hv, h1, h2, h3, rfl⟩ := hw
    rw [hv]
    unfold iBody iMem II.ig
    simp only
    rw [decide_eq_true (by omega)]
    by_cases hm : m = 0
    · rw [if_pos (by omega), if_pos hm]; rfl
    · rw [if_neg (by omega), if_neg hm]
      have e : ((a : Int) + 64).toNat = a + 64 := by omega
      rw [e]
      rfl
  · obtain ⟨n, hv, h1, h2, rfl⟩ := hw
    simp only [Nat.reduceSub, Nat.reducePow] at h1 h2
    rw [hv]
    unfold iBody iConst II.ig
    simp only
    rw [uzi]
    have e0 : IntKind.u64.wrap n = n % 18446744073709551616 := by simp only [IntKind.wrap, IntKind.signed, IntKind.bits]; simp
    have e1 : IntKind.i32.wrap (IntKind.u64.wrap n % 4294967296) = n := by rw [e0, IntKind.wrap_i32]; omega
    rw [e1, decide_eq_true (by omega)]
    rfl
  · obtain ⟨n, hv, h1, h2, rfl⟩ := hw
    simp only [Nat.reduceSub, Nat.reducePow] at h1 h2
    rw [hv]
    unfold iBody iConst II.ig
    simp only
    rw [uz8 (by omega) (by omega)]
    rfl
  · obtain ⟨n, hv, h1, rfl⟩ := hw
    rw [hv]
    unfold iBody iConst II.ig
    simp only
    rw [w_u32 (by simp only [Nat.reducePow] at h1; omega), decide_eq_true (by simp only [Nat.reducePow] at h1; omega)]
    rfl
  · obtain ⟨n, hv, h1, rfl⟩ := hw
    rw [hv]
    rfl
  · obtain ⟨h, hv, hh⟩ := hw
    rw [hv]
    have e := uim (n := true) hh
    unfold iBody iRefs II.ig
    simp only [iAll, e]
    simp [iCat, ucl]
  · obtain ⟨h, hv, hh⟩ := hw
    rw [hv]
    have e := uim (n := (v.op % 2 == 1)) hh
    unfold iBody iRefs II.ig
    simp only [iAll, e]
    simp [iCat, uci]
  · obtain ⟨c, n, h, g, x, y, hv, hc, hn, hx, hy, rfl⟩ := hw
    rw [hv]
    have e1 := uim (n := (c % 2 != 0)) hx
    have e2 := uim (n := (c / 2 % 2 * 2 != 0)) hy
    have e3 : castC [⟨5, (c % 2 != 0), h⟩, ⟨5, (c / 2 % 2 * 2 != 0), g⟩] = (c : Int) := by
      have : c = 0 ∨ c = 1 ∨ c = 2 ∨ c = 3 := by omega
      rcases this with rfl | rfl | rfl | rfl <;> rfl
    unfold iBody iCasts iRefs II.ig
    simp only [iAll, e1, e2, e3]
    rw [ue6 (by omega)]
    simp [iCat]
  · obtain ⟨n, m, hv, hn, hm, rfl⟩ := hw
    rw [hv]
    unfold iBody II.ig
    simp only
    rw [decide_eq_true (by omega)]
    rfl
  · exact hw.elim
end Go.Proofs.YthidcpkcfoldmaaGreat.Pi.Q
namespace Go.Proofs.YthidcpkcfoldmaaGreat.Pi.Q
open Go Go.Proofs.YthidcpkcfoldmaaGreat.Pi
variable {b : List UInt8} {t : TS} {op k : Nat} {v : II} {u : List UInt8}
def wOp (op : Nat) : Prop := (op < 256 ∧ op ≠ 251 ∧ op ≠ 252 ∧ op ≠ 253) ∨ ∃ h k, (h = 251 ∨ h = 252) ∧ k ≤ 255 ∧ op = h * 256 + k
theorem uxp : ∀ n ∈ List.range 256, formN (n : Int) ≠ 0 → n ≠ 251 ∧ n ≠ 252 ∧ n ≠ 253 := by decide +kernel
theorem utj {op : Int} (h1 : ¬ (0 ≤ op ∧ op < 256)) (h2 : ¬ (64256 ≤ op ∧ op < 64320)) (h3 : ¬ (64512 ≤ op ∧ op < 64576)) : formN op = 0 := by
  have e1 := u8c (op := op) numP (fun r hr => by have := numP_u r hr; unfold inU at this; omega)
  have e2 := u8c (op := op) othP (fun r hr => by have := othP_u r hr; unfold inU at this; omega)
  have k1 : opP op = (0, ⟨#[]⟩, 0) := by unfold opP; split <;> assumption
  unfold formN
  rw [k1]
  rfl
theorem uok {op : Int} (h : formN op ≠ 0) : 0 ≤ op ∧ op < 65536 ∧ wOp op.toNat := by
  by_cases h1 : 0 ≤ op ∧ op < 256
  · have := uxp op.toNat (List.mem_range.mpr (by omega)) (by rw [Int.toNat_of_nonneg h1.1]; exact h)
    exact ⟨h1.1, by omega, .inl (by omega)⟩
  · by_cases h2 : 64256 ≤ op ∧ op < 64320
    · exact ⟨by omega, by omega, .inr ⟨251, op.toNat - 64256, .inl rfl, by omega, by omega⟩⟩
    · by_cases h3 : 64512 ≤ op ∧ op < 64576
      · exact ⟨by omega, by omega, .inr ⟨252, op.toNat - 64512, .inr rfl, by omega, by omega⟩⟩
      · exact absurd (utj h1 h2 h3) h
theorem iOp_1 (h : op < 256) : (iOp (op : Int)).1 = [UInt8.ofNat op] := by
  unfold iOp
  simp only
  rw [if_neg (by omega), ue6 h]
theorem iOp_2 {h k : Nat} (hh : h = 251 ∨ h = 252) (hk : k ≤ 255) : (iOp ((h * 256 + k : Nat) : Int)).1 = UInt8.ofNat h :: putU k := by
  have e1 : (((h * 256 + k : Nat) : Int) / 256) = (h : Int) := by omega
  have e2 : (((h * 256 + k : Nat) : Int) % 256).toNat = k := by omega
  unfold iOp
  simp only
  rw [if_pos (by omega), e1, e2, ue6 (by omega)]
theorem fmT_id {a : Nat} (h : formN op ≠ 0) : fmT a op t = t := by unfold fmT; rw [if_neg h]
theorem uz5 (hw : wOp op) (hf : formN op ≠ 0) (ha : At b t.p (iOp op).1) (h0 : t.why = 0) : (smT b 255 t).2.why = 0 ∧ opcT b t = (op, ⟨t.p + (iOp op).1.length, t.bad, 0⟩) := by
  rcases hw with ⟨h1, h2, h3, h4⟩ | ⟨h, k, hh, hk, rfl⟩
  · rw [iOp_1 h1] at ha ⊢
    have e : smT b 255 t = _ := ujz (by decide) (by omega) b t ha h0
    unfold opcT
    rw [e]
    simp only
    rw [if_neg h4, if_neg (by omega), fmT_id hf]
    exact ⟨trivial, rfl⟩
  · rw [iOp_2 hh hk] at ha ⊢
    have a1 : At b t.p ([UInt8.ofNat h] ++ putU k) := ha
    obtain ⟨a2, a3⟩ := u2i a1
    have e : smT b 255 t = _ := ujz (by decide) (by omega) b t a2 h0
    simp only [List.length_cons, List.length_nil, Nat.zero_add] at a3 e
    have e2 := Up_at (e := 4) (most := 255) (t := ⟨t.p + 1, t.bad, 0⟩) (by decide) hk a3 rfl
    have e3 : ∀ s : TS, s.why = 0 → pfT t.p s = s := fun s hs => by unfold pfT; rw [if_neg (by omega)]
    unfold opcT
    rw [e]
    simp only
    rw [e2, if_neg (by omega), if_pos hh, e3 _ rfl, fmT_id hf]
    refine ⟨trivial, ?_⟩
    simp only [List.length_cons, Prod.mk.injEq, TS.mk.injEq, true_and, and_true]
    omega
theorem fmT_ok {a : Nat} (h : (fmT a op t).why = 0) : formN op ≠ 0 ∧ t.why = 0 ∧ fmT a op t = t := by
  by_cases hf : formN op = 0
  · exfalso
    unfold fmT at h
    rw [if_pos hf] at h
    unfold flT at h
    by_cases hw : t.why = 0
    · rw [if_pos ⟨hw, by decide⟩] at h; exact absurd h (by exact (by decide : ¬ (4 : Nat) = 0))
    · rw [if_neg (fun g => hw g.1)] at h; exact hw h
  · rw [fmT_id hf] at h ⊢
    exact ⟨hf, h, rfl⟩
theorem utw : formN (253 : Nat) = 0 := by decide +kernel
theorem op_lst (hs : (smT b 255 t).2.why = 0) (h0 : (opcT b t).2.why = 0) : t.why = 0 ∧ formN ((opcT b t).1 : Nat) ≠ 0 ∧ t.p + (iOp ((opcT b t).1 : Nat)).1.length ≤ (opcT b t).2.p := by
  obtain ⟨g0, x, ⟨g1, rfl⟩, g2⟩ := Sm_lst (most := 255) b t hs
  have hp := (smT_p1 hs).1
  simp only at g1 g2
  unfold opcT at h0 ⊢
  by_cases hd : (smT b 255 t).1 = 253
  · rw [if_pos hd] at h0
    exact absurd utw (fmT_ok h0).1
  · rw [if_neg hd] at h0 ⊢
    by_cases ht : (smT b 255 t).1 = 251 ∨ (smT b 255 t).1 = 252
    · rw [if_pos ht] at h0 ⊢
      simp only at h0 ⊢
      obtain ⟨f1, f2, f3⟩ := fmT_ok h0
      rw [f3]
      have f4 : (upT b 255 4 (smT b 255 t).2).2.why = 0 := by
        unfold pfT at f2
        by_cases hc : (upT b 255 4 (smT b 255 t).2).2.why = 4 ∧ (upT b 255 4 (smT b 255 t).2).2.bad = t.p + 1
        · rw [if_pos hc] at f2; exact absurd f2 (by exact (by decide : ¬ (4 : Nat) = 0))
        · rw [if_neg hc] at f2; exact f2
      obtain ⟨k0, y, ⟨k1, rfl⟩, k2⟩ := Up_lst (e := 4) (most := 255) (by decide) b _ f4
      simp only at k1 k2
      refine ⟨g0, f1, ?_⟩
      rw [iOp_2 ht k1, List.length_cons]
      have e : (pfT t.p (upT b 255 4 (smT b 255 t).2).2).p = (upT b 255 4 (smT b 255 t).2).2.p := pfT_p
      omega
    · rw [if_neg ht] at h0 ⊢
      simp only at h0 ⊢
      obtain ⟨f1, f2, f3⟩ := fmT_ok h0
      rw [f3]
      refine ⟨g0, f1, ?_⟩
      rw [iOp_1 (by omega)]
      exact g2
theorem uuc {α : Type} {one : TS → α × TS} {n : Nat} (h : ∀ t : TS, t.p ≤ n → (one t).2.p ≤ n) : ∀ (k : Nat) (l : List α) (t : TS), t.p ≤ n → (repC one k l t).2.p ≤ n
  | 0, l, t, ht => ht
  | k + 1, l, t, ht => by
    simp only [repC]
    split
    · exact uuc h k _ _ (h t ht)
    · exact h t ht
theorem unx {α : Type} {one : TS → α × TS} {n : Nat} (h : ∀ t : TS, t.p ≤ n → (one t).2.p ≤ n) : ∀ (k : Nat) (l : List α) (t : TS), t.p ≤ n → (repT one k l t).1.2.p ≤ n
  | 0, l, t, ht => ht
  | k + 1, l, t, ht => by
    simp only [repT]
    split
    · exact unx h k _ _ (h t ht)
    · exact h t ht
theorem imm_le (ht : t.p ≤ b.length) : (imm k op b t).2.p ≤ b.length := by
  unfold imm
  split <;> simp only
  · exact tkB_le ht
  · exact uuc (fun t h => clT_le h) _ _ _ (upT_le (tkB_le ht))
  · exact tkU_le ht
  · exact tkU_le (tkU_le ht)
  · unfold tabT labR
    have := unx (one := tk (0 : Nat) (rdU b 32 b.length)) (fun t h => tkU_le h) (upT b 65536 2 t).1 [] (upT b 65536 2 t).2 (upT_le ht)
    split
    · exact this
    · exact tkU_le this
  · exact unx (fun t h => tkV_le h) _ _ _ (upT_le ht)
  · refine tkU_le ?_
    unfold memT
    split
    · exact tkU_le (upT_le ht)
    · exact upT_le ht
  · exact tkS_le ht
  · exact tkS_le ht
  · exact tkF_le ht
  · exact tkF_le ht
  · exact tkH_le ht
  · exact tkH_le ht
  · exact tkH_le (tkH_le (tkU_le (smT_le ht)))
  · exact tkU_le (tkU_le ht)
  · exact ht
theorem uf8 {h : Int} (hu : wHeap h = .ok u) : -12 ≤ h ∧ h ≤ 2147483647 := by
  unfold wHeap at hu
  by_cases h0 : 0 ≤ h
  · rw [if_pos h0] at hu
    split at hu
    · omega
    · cases hu
  · rw [if_neg h0] at hu
    cases hf : find h absI 0 with
    | none => rw [hf] at hu; cases hu
    | some j =>
      obtain ⟨h1, h2⟩ := ua1 h (by omega) j hf
      have : j = 0 ∨ j = 1 ∨ j = 2 ∨ j = 3 ∨ j = 4 ∨ j = 5 ∨ j = 6 ∨ j = 7 ∨ j = 8 ∨ j = 9 ∨ j = 10 ∨ j = 11 := by omega
      rcases this with rfl | rfl | rfl | rfl | rfl | rfl | rfl | rfl | rfl | rfl | rfl | rfl <;> subst h2 <;> exact ⟨by decide, by decide⟩
theorem val_64 {r : VT} (hu : wVal r = .ok u) : -12 ≤ r.heap ∧ r.heap ≤ 2147483647 := by
  unfold wVal at hu
  split at hu
  · obtain ⟨x, hx, _⟩ := unv hu
    exact uf8 hx
  · split at hu
    · rename_i h; omega
    · cases hu
theorem uou {r : BK} (hu : wBlock r = .ok u) : (-12 ≤ r.res.heap ∧ r.res.heap ≤ 2147483647) ∧ -1 ≤ r.ty ∧ r.ty ≤ 2147483647 := by
  unfold wBlock at hu
  by_cases h0 : 0 ≤ r.ty
  · rw [if_pos h0] at hu
    split at hu
    · rename_i h
      rw [h.1]
      exact ⟨by decide, by omega, h.2⟩
    · cases hu
  · rw [if_neg h0] at hu
    by_cases h1 : r.ty < -1
    · rw [if_pos h1] at hu; cases hu
    · rw [if_neg h1] at hu
      split at hu
      · rename_i h
        rw [h]
        exact ⟨by decide, by omega, by omega⟩
      · exact ⟨val_64 hu, by omega, by omega⟩
theorem uee {α : Type} {w : α → List UInt8 → Prop} : ∀ (l : List α) (y : List UInt8), AllW w l y → ∀ a ∈ l, ∃ x, w a x
  | [], y, h, a, ha => by cases ha
  | v :: l, y, h, a, ha => by
    obtain ⟨x, z, h1, h2, _⟩ := h
    rcases List.mem_cons.mp ha with rfl | ha
    · exact ⟨x, h1⟩
    · exact uee l z h2 a ha
theorem ig_w (ho : 0 ≤ v.op) (ho' : v.op < 65536) (hx : 0 ≤ v.x ∧ v.x ≤ 4294967295) (hy : 0 ≤ v.y ∧ v.y ≤ 4294967295) (hn : 0 ≤ v.n ∧ v.n < 18446744073709551616) (ha : 0 ≤ v.al ∧ v.al ≤ 4294967295) (hm : 0 ≤ v.me ∧ v.me ≤ 4294967295) (hf : 0 ≤ v.off ∧ v.off < 18446744073709551616)
    (hb : (-12 ≤ v.blk.res.heap ∧ v.blk.res.heap ≤ 2147483647) ∧ -1 ≤ v.blk.ty ∧ v.blk.ty ≤ 2147483647) (hl : ∀ a ∈ v.la, a < 2 ^ 32) (ht : ∀ a ∈ v.ty, -12 ≤ a.heap ∧ a.heap ≤ 2147483647) (hc : ∀ a ∈ v.ca, a.2.1 < 2 ^ 32 ∧ a.2.2 < 2 ^ 32)
    (l1 : v.la.length ≤ 65536) (l2 : v.ty.length ≤ 65536) (l3 : v.ca.length ≤ 65536) : v.ig.w where
  op := by show I64 v.op; unfold I64; omega
  x := hx
  y := hy
  n := hn
  al := ha
  me := hm
  off := hf
  bt := by show I64 v.blk.ty; unfold I64; omega
  bh := by show I64 v.blk.res.heap; unfold I64; omega
  lab := fun a h => by
    obtain ⟨n, h1, rfl⟩ := List.mem_map.mp h
    have := hl n h1
    show 0 ≤ (n : Int) ∧ (n : Int) ≤ 4294967295
    omega
  ty := fun a h => by have := ht a h; unfold I64; omega
  ca := fun a h => by
    obtain ⟨n, h1, rfl⟩ := List.mem_map.mp h
    have := hc n h1
    show (0 ≤ (n.2.1 : Int) ∧ (n.2.1 : Int) ≤ 4294967295) ∧ (0 ≤ (n.2.2 : Int) ∧ (n.2.2 : Int) ≤ 4294967295)
    omega
  ll := by show (v.la.map _).length < _; rw [List.length_map]; omega
  lt := by show v.ty.length < _; omega
  lc := by show (v.ca.map _).length < _; rw [List.length_map]; omega
theorem u64_lt (n : Int) : 0 ≤ IntKind.u64.wrap n ∧ IntKind.u64.wrap n < 18446744073709551616 := by
  have e : IntKind.u64.wrap n = n % 18446744073709551616 := by simp only [IntKind.wrap, IntKind.signed, IntKind.bits]; simp
  rw [e]
  omega
theorem body_w (hw : wBody k v u) (ho : 0 ≤ v.op) (ho' : v.op < 65536) : v.ig.w := by
  have z32 : (0 : Int) ≤ 0 ∧ (0 : Int) ≤ 4294967295 := by decide
  have z64 : (0 : Int) ≤ 0 ∧ (0 : Int) < 18446744073709551616 := by decide
  have zb : ((-12 : Int) ≤ 0 ∧ (0 : Int) ≤ 2147483647) ∧ (-1 : Int) ≤ 0 ∧ (0 : Int) ≤ 2147483647 := by decide
  have nl : ∀ a ∈ ([] : List Nat), a < 2 ^ 32 := fun a h => by cases h
  have nt : ∀ a ∈ ([] : List VT), -12 ≤ a.heap ∧ a.heap ≤ 2147483647 := fun a h => by cases h
  have nc : ∀ a ∈ ([] : List CN), a.2.1 < 2 ^ 32 ∧ a.2.2 < 2 ^ 32 := fun a h => by cases h
  have n0 : 0 ≤ 65536 := by decide
  unfold wBody at hw
  split at hw
  · obtain ⟨hv, rfl⟩ := hw
    rw [hv]
    exact ig_w ho ho' z32 z32 z64 z32 z32 z64 zb nl nt nc n0 n0 n0
  · obtain ⟨r, hv, hr⟩ := hw
    rw [hv]
    exact ig_w ho ho' z32 z32 z64 z32 z32 z64 (uou hr) nl nt nc n0 n0 n0
  · obtain ⟨r, l, x, y, hv, hr, hl, hy, rfl⟩ := hw
    rw [hv]
    exact ig_w ho ho' z32 z32 z64 z32 z32 z64 (uou hr) nl nt (fun a h => by obtain ⟨x, h⟩ := uee _ _ hy a h; exact ⟨h.2.1, h.2.2.1⟩) n0 n0 hl
  · obtain ⟨n, hv, hn, rfl⟩ := hw
    rw [hv]
    exact ig_w ho ho' (by simp only; omega) z32 z64 z32 z32 z64 zb nl nt nc n0 n0 n0
  · obtain ⟨n, m, hv, hn, hm, rfl⟩ := hw
    rw [hv]
    exact ig_w ho ho' (by simp only; omega) (by simp only; omega) z64 z32 z32 z64 zb nl nt nc n0 n0 n0
  · obtain ⟨n, l, y, hv, hl, hy, hn, rfl⟩ := hw
    rw [hv]
    exact ig_w ho ho' (by simp only; omega) z32 z64 z32 z32 z64 zb (fun a h => by obtain ⟨x, h⟩ := uee _ _ hy a h; exact h.1) nt nc hl n0 n0
  · obtain ⟨l, y, hv, hl, hy, rfl⟩ := hw
    rw [hv]
    exact ig_w ho ho' z32 z32 z64 z32 z32 z64 zb nl (fun a h => by obtain ⟨x, h⟩ := uee _ _ hy a h; exact val_64 h) nc n0 (by simp only; omega) n0
  · obtain ⟨a, m, o, hv, h1, h2, h3, rfl⟩ := hw
    rw [hv]
    exact ig_w ho ho' z32 z32 z64 (by simp only; omega) (by simp only; omega) (by simp only; omega) zb nl nt nc n0 n0 n0
  · obtain ⟨n, hv, h1⟩ := hw
    rw [hv]
    exact ig_w ho ho' z32 z32 (u64_lt _) z32 z32 z64 zb nl nt nc n0 n0 n0
  · obtain ⟨n, hv, h1⟩ := hw
    rw [hv]
    exact ig_w ho ho' z32 z32 (u64_lt _) z32 z32 z64 zb nl nt nc n0 n0 n0
  · obtain ⟨n, hv, h1, rfl⟩ := hw
    rw [hv]
    exact ig_w ho ho' z32 z32 (by simp only [Nat.reducePow] at h1 ⊢; omega) z32 z32 z64 zb nl nt nc n0 n0 n0
  · obtain ⟨n, hv, h1, rfl⟩ := hw
    rw [hv]
    exact ig_w ho ho' z32 z32 (by simp only [Nat.reducePow] at h1 ⊢; omega) z32 z32 z64 zb nl nt nc n0 n0 n0
  · obtain ⟨h, hv, hh⟩ := hw
    rw [hv]
    exact ig_w ho ho' z32 z32 z64 z32 z32 z64 zb nl (fun a h => by simp only [List.mem_singleton] at h; rw [h]; exact uf8 hh) nc n0 (by simp) n0
  · obtain ⟨h, hv, hh⟩ := hw
    rw [hv]
    exact ig_w ho ho' z32 z32 z64 z32 z32 z64 zb nl (fun a h => by simp only [List.mem_singleton] at h; rw [h]; exact uf8 hh) nc n0 (by simp) n0
  · obtain ⟨c, n, h, g, x, y, hv, hc, hn, hx, hy, rfl⟩ := hw
    rw [hv]
    exact ig_w ho ho' (by simp only; omega) z32 z64 z32 z32 z64 zb nl (fun a h => by simp only [List.mem_cons, List.not_mem_nil, or_false] at h; rcases h with rfl | rfl; exact uf8 hx; exact uf8 hy) nc n0 (by simp) n0
  · obtain ⟨n, m, hv, hn, hm, rfl⟩ := hw
    rw [hv]
    exact ig_w ho ho' (by simp only; omega) z32 (by simp only; omega) z32 z32 z64 zb nl nt nc n0 n0 n0
  · exact hw.elim
theorem uwq {a : Nat} (ha : a ≤ b.length) : (readI b a).2.p ≤ b.length := by
  unfold readI
  split
  · exact imm_le (utk ha)
  · exact smT_le ha
def wInstr (v : II) (u : List UInt8) : Prop := ∃ x, formN v.op ≠ 0 ∧ wBody (formN v.op) v x ∧ u = (iOp v.op).1 ++ x
theorem uum (h : wInstr v u) : progW v.ig = (u, false) ∧ v.ig.w := by
  obtain ⟨x, h1, h2, rfl⟩ := h
  obtain ⟨h3, h4, h5⟩ := uok h1
  have e := uye h2 h3
  refine ⟨?_, body_w h2 h3 h4⟩
  show iCat (iOp v.op) (iBody (formN v.op) v.ig) = _
  rw [e]
  rfl
theorem urd {p : Nat} (h : wInstr v u) (ha : At b p u) : readI b p = (v, ⟨p + u.length, 0, 0⟩) := by
  obtain ⟨x, h1, h2, rfl⟩ := h
  obtain ⟨h3, h4, h5⟩ := uok h1
  obtain ⟨a1, a2⟩ := u2i ha
  obtain ⟨n, hn⟩ := Int.eq_ofNat_of_zero_le h3
  rw [hn] at h1 h2 a1 a2 h5 ⊢
  rw [Int.toNat_natCast] at h5
  obtain ⟨g1, g2⟩ := uz5 (t := ⟨p, 0, 0⟩) h5 h1 a1 rfl
  have hg := uvw (t := ⟨p + (iOp (n : Int)).1.length, 0, 0⟩) (op := n) h2 a2 rfl hn
  unfold readI
  rw [if_pos g1, g2]
  simp only
  rw [hg.1, hg.2, List.length_append, Nat.add_assoc]
theorem unr {a : Nat} (h0 : (readI b a).2.why = 0) : ∃ u, wInstr (readI b a).1 u ∧ a + u.length ≤ (readI b a).2.p := by
  unfold readI at h0 ⊢
  by_cases hs : (smT b 255 (⟨a, 0, 0⟩ : TS)).2.why = 0
  · rw [if_pos hs] at h0 ⊢
    simp only at h0 ⊢
    have hk := uc9 ((opcT b (⟨a, 0, 0⟩ : TS)).1 : Nat)
    have ho : (opcT b (⟨a, 0, 0⟩ : TS)).2.why = 0 := Classical.byContradiction fun g => by rw [imm_no g] at h0; exact g h0
    obtain ⟨g1, g2, g3⟩ := op_lst hs ho
    obtain ⟨k1, u, k2, k3⟩ := uxv g2 hk h0
    refine ⟨_, ⟨u, ?_, ?_, rfl⟩, ?_⟩
    · rw [uj9]; exact g2
    · rw [uj9]; exact k2
    · rw [uj9, List.length_append]
      simp only at g3
      omega
  · rw [if_neg hs] at h0; exact absurd h0 hs
end Go.Proofs.YthidcpkcfoldmaaGreat.Pi.Q
namespace Go.Proofs.YthidcpkcfoldmaaGreat.Pi.Q
open Go Go.Proofs.YthidcpkcfoldmaaGreat.Pi
attribute [local congr] ite_congr
variable {H : Heap} {v w : IG}
theorem usk {k1 k3 : IntKind} {a c : Int} {t : Bool} : run (bi .eql (.struct [.int, .bool, .int]) (.agg [.int k1 a, .bool t, .int k3 c]) (.agg [.int k1 a, .bool t, .int k3 c])) H = some (.ok (.bool true) H) := by
  unfold run bi
  simp [eqPV, u4m, u3n, M.pure]
theorem ud6 {v : VT} : run (C u7w [.agg [.int .i64 v.num, .bool v.nul, .int .i64 v.heap], .agg [.int .i64 v.num, .bool v.nul, .int .i64 v.heap]]) H = some (.ok (.bool true) H) := by
  rw [ujw]
  by_cases h : v.num = 5
  · have e : (v.num = 5) = True := eq_true h
    simp +contextual -dsimp (disch := omega) only [↓goDown, goUp, cr, simprocAttr, u38, usk, e]
  · have e : (v.num = 5) = False := eq_false h
    simp +contextual -dsimp (disch := omega) only [↓goDown, goUp, cr, simprocAttr, u38, usk, e]
theorem u9n : run (C u3x [.slice false true 0 [], .slice false true 0 []]) H = some (.ok (.bool true) H) := by
  have hl : ∀ v4, run (u2p (.slice false true 0 []) (.slice false true 0 []) v4 (.int .i64 0) (.int .i64 0)) H = some (.ok (.bool true) H) := fun v4 => by
    rw [u7f]
    simp +contextual -dsimp (disch := omega) only [↓goDown, goUp, cr, simprocAttr, show ((0 : Nat) : Int) = 0 from rfl, Int.lt_irrefl]
  rw [uaz]
  simp +contextual -dsimp (disch := omega) only [↓goDown, goUp, cr, simprocAttr, u2w, show ((0 : Nat) : Int) = 0 from rfl, hl]
theorem u46 {a : PV} {s : ByteArray} {n : Int} : fd 2 none (.agg [a, .str s, .int .i64 n]) = M.pure (.int .i64 n) := nrfl rfl
theorem u57 {op : Int} {k : Nat} (h0 : -9223372036854775808 ≤ op) (h1 : op ≤ 9223372036854775807) (hk : formN op = k) : run (C u3y [.int .i64 op]) H = some (.ok (.agg [.int .i64 (opP op).1, .str (opP op).2.1, .int .i64 k]) H) := by
  rw [uin h0 h1]
  unfold encK
  rw [uj7, hk]
theorem ufj {z z' : Bool} {v4 : PV} {l : List Int} (hl : l.length < 2 ^ 62) : ∀ (m i : Nat), i + m = l.length → run (u1k (LZ z 1 (l.map encU32)) (LZ z' 1 (l.map encU32)) v4 (.int .i64 l.length) (.int .i64 i)) H = some (.ok (.bool true) H)
  | 0, i, h => by
    rw [u51]
    have c1 : ¬ (i : Int) < l.length := by omega
    simp +contextual -dsimp (disch := omega) only [↓goDown, goUp, cr, simprocAttr, c1]
  | m + 1, i, h => by
    have ih := ufj hl (z := z) (z' := z') (v4 := v4) m (i + 1) (by omega)
    rw [u51]
    have c1 : (i : Int) < l.length := by omega
    have hi : i < l.length := by omega
    have hg : (l.map encU32)[i]? = some (encU32 l[i]) := by simp [hi]
    have hia : ∀ z, run (iaS 1 (LZ z 1 (l.map encU32)) (.int .i64 i)) H = some (.ok (.elem [.int .u32 l[i]]) H) := fun z => ia_Z hg
    simp +contextual -dsimp (disch := omega) only [↓goDown, goUp, cr, simprocAttr, u0b, c1, hia, u2w, ns]
    exact ih
theorem uns {z z' : Bool} {l : List Int} (hl : l.length < 2 ^ 62) : run (C u4q [LZ z 1 (l.map encU32), LZ z' 1 (l.map encU32)]) H = some (.ok (.bool true) H) := by
  rw [uaf]
  have lp : ∀ (v4 : PV), run (u1k (LZ z 1 (l.map encU32)) (LZ z' 1 (l.map encU32)) v4 (.int .i64 l.length) (.int .i64 0)) H = some (.ok (.bool true) H) := fun v4 => ufj hl l.length 0 (by omega)
  simp +contextual -dsimp (disch := omega) only [↓goDown, goUp, cr, simprocAttr, u0b, ln_Z, List.length_map, u2w, lp]
theorem ugl {z z' : Bool} {v4 : PV} {l : List CH} (hl : l.length < 2 ^ 62) : ∀ (m i : Nat), i + m = l.length → run (u14 (LZ z 3 (l.map encCH)) (LZ z' 3 (l.map encCH)) v4 (.int .i64 l.length) (.int .i64 i)) H = some (.ok (.bool true) H)
  | 0, i, h => by
    rw [u4c]
    have c1 : ¬ (i : Int) < l.length := by omega
    simp +contextual -dsimp (disch := omega) only [↓goDown, goUp, cr, simprocAttr, c1]
  | m + 1, i, h => by
    have ih := ugl hl (z := z) (z' := z') (v4 := v4) m (i + 1) (by omega)
    rw [u4c]
    have c1 : (i : Int) < l.length := by omega
    have hi : i < l.length := by omega
    have hg : (l.map encCH)[i]? = some (encCH l[i]) := by simp [hi]
    have hia : ∀ z, run (iaS 3 (LZ z 3 (l.map encCH)) (.int .i64 i)) H = some (.ok (.elem [.int .i64 l[i].kind, .int .u32 l[i].tag, .int .u32 l[i].label]) H) := fun z => ia_Z hg
    simp +contextual -dsimp (disch := omega) only [↓goDown, goUp, cr, simprocAttr, u0b, c1, hia, neq_s3, ns]
    exact ih
theorem uo8 {z z' : Bool} {l : List CH} (hl : l.length < 2 ^ 62) : run (C u3c [LZ z 3 (l.map encCH), LZ z' 3 (l.map encCH)]) H = some (.ok (.bool true) H) := by
  rw [u8m]
  have lp : ∀ (v4 : PV), run (u14 (LZ z 3 (l.map encCH)) (LZ z' 3 (l.map encCH)) v4 (.int .i64 l.length) (.int .i64 0)) H = some (.ok (.bool true) H) := fun v4 => ugl hl l.length 0 (by omega)
  simp +contextual -dsimp (disch := omega) only [↓goDown, goUp, cr, simprocAttr, u0b, ln_Z, List.length_map, u2w, lp]
theorem ues {z z' : Bool} {v4 : PV} {l : List VT} (hl : l.length < 2 ^ 62) : ∀ (m i : Nat), i + m = l.length → run (u1w (LZ z 3 (l.map encV)) (LZ z' 3 (l.map encV)) v4 (.int .i64 l.length) (.int .i64 i)) H = some (.ok (.bool true) H)
  | 0, i, h => by
    rw [u5p]
    have c1 : ¬ (i : Int) < l.length := by omega
    simp +contextual -dsimp (disch := omega) only [↓goDown, goUp, cr, simprocAttr, c1]
  | m + 1, i, h => by
    have ih := ues hl (z := z) (z' := z') (v4 := v4) m (i + 1) (by omega)
    rw [u5p]
    have c1 : (i : Int) < l.length := by omega
    have hi : i < l.length := by omega
    have hg : (l.map encV)[i]? = some (encV l[i]) := by simp [hi]
    have hia : ∀ z, run (iaS 3 (LZ z 3 (l.map encV)) (.int .i64 i)) H = some (.ok (.elem [.int .i64 l[i].num, .bool l[i].nul, .int .i64 l[i].heap]) H) := fun z => ia_Z hg
    have hsame := ud6 (H := H) (v := l[i])
    simp +contextual -dsimp (disch := omega) only [↓goDown, goUp, cr, simprocAttr, u0b, c1, hia, hsame, un_not, ns]
    exact ih
theorem u8l {z z' : Bool} {l : List VT} (hl : l.length < 2 ^ 62) : run (C u4e [LZ z 3 (l.map encV), LZ z' 3 (l.map encV)]) H = some (.ok (.bool true) H) := by
  rw [uc4]
  have lp : ∀ (v4 : PV), run (u1w (LZ z 3 (l.map encV)) (LZ z' 3 (l.map encV)) v4 (.int .i64 l.length) (.int .i64 0)) H = some (.ok (.bool true) H) := fun v4 => ues hl l.length 0 (by omega)
  simp +contextual -dsimp (disch := omega) only [↓goDown, goUp, cr, simprocAttr, u0b, ln_Z, List.length_map, u2w, lp]
theorem uzm : formN 31 = 3 := by decide +kernel
def bare (v : IG) : Prop := v.body = ⟨true, 0, []⟩ ∧ v.els = ⟨true, 0, []⟩ ∧ v.hasElse = false
def sameF (k : Nat) (v w : IG) : Prop :=
  match k with
  | 2 => w.block = v.block
  | 3 => w.block = v.block ∧ w.catches.l = v.catches.l
  | 4 => w.x = v.x
  | 5 => w.x = v.x ∧ w.y = v.y
  | 6 => w.x = v.x ∧ w.labels.l = v.labels.l
  | 7 | 13 | 14 => w.types.l = v.types.l
  | 8 => w.mem = v.mem
  | 9 | 10 | 11 | 12 => w.n = v.n
  | 15 => w.x = v.x ∧ w.types.l = v.types.l
  | 16 => w.x = v.x ∧ w.n = v.n
  | _ => True
theorem v00e (hv : bare v) (hw : bare w) (l1 : v.labels.l.length < 2 ^ 62) (l2 : v.types.l.length < 2 ^ 62) (l3 : v.catches.l.length < 2 ^ 62) (h0 : -9223372036854775808 ≤ v.op) (h1 : v.op ≤ 9223372036854775807) (hk : formN v.op = 0) (ho : w.op = v.op) (hf : sameF 0 v w) : run (C u0i [.agg (cs_IG v), .agg (cs_IG w)]) H = some (.ok (.bool true) H) := by
  have hfd := fun K => u57 (H := K) h0 h1 hk
  simp only [show ((0 : Nat) : Int) = 0 from rfl] at hfd
  obtain ⟨b1, b2, b3⟩ := hv
  obtain ⟨d1, d2, d3⟩ := hw
  rw [u0y]
  unfold cs_IG
  rw [b1, b2, b3, d1, d2, d3, ho]
  simp +contextual -dsimp (disch := omega) only [↓goDown, goUp, cr, simprocAttr, u38, u2w, u2q, eql_s3, u0b, u09, u0g, low_Z, u0a, hfd, u46, u06, u02, u00]
theorem uzw (hv : bare v) (hw : bare w) (l1 : v.labels.l.length < 2 ^ 62) (l2 : v.types.l.length < 2 ^ 62) (l3 : v.catches.l.length < 2 ^ 62) (h0 : -9223372036854775808 ≤ v.op) (h1 : v.op ≤ 9223372036854775807) (hk : formN v.op = 1) (ho : w.op = v.op) (hf : sameF 1 v w) : run (C u0i [.agg (cs_IG v), .agg (cs_IG w)]) H = some (.ok (.bool true) H) := by
  have hfd := fun K => u57 (H := K) h0 h1 hk
  simp only [show ((1 : Nat) : Int) = 1 from rfl] at hfd
  obtain ⟨b1, b2, b3⟩ := hv
  obtain ⟨d1, d2, d3⟩ := hw
  rw [u0y]
  unfold cs_IG
  rw [b1, b2, b3, d1, d2, d3, ho]
  simp +contextual -dsimp (disch := omega) only [↓goDown, goUp, cr, simprocAttr, u38, u2w, u2q, eql_s3, u0b, u09, u0g, low_Z, u0a, hfd, u46, u06, u02, u00]
theorem uyu (hv : bare v) (hw : bare w) (l1 : v.labels.l.length < 2 ^ 62) (l2 : v.types.l.length < 2 ^ 62) (l3 : v.catches.l.length < 2 ^ 62) (h0 : -9223372036854775808 ≤ v.op) (h1 : v.op ≤ 9223372036854775807) (hk : formN v.op = 2) (ho : w.op = v.op) (hf : sameF 2 v w) : run (C u0i [.agg (cs_IG v), .agg (cs_IG w)]) H = some (.ok (.bool true) H) := by
  have hfd := fun K => u57 (H := K) h0 h1 hk
  simp only [show ((2 : Nat) : Int) = 2 from rfl] at hfd
  obtain ⟨b1, b2, b3⟩ := hv
  obtain ⟨d1, d2, d3⟩ := hw
  have hb := hf
  simp only [sameF] at hb
  have hts := fun K => ud6 (H := K) (v := v.block.res)
  have hnb := fun K => u9n (H := K)
  rw [u0y]
  unfold cs_IG
  rw [b1, b2, b3, d1, d2, d3, ho]
  simp only [hb]
  by_cases h4 : v.op = 4
  · have h4' : (v.op = 4) = True := eq_true h4
    have h31 : (v.op = 31) = False := eq_false (by omega)
    simp +contextual -dsimp (disch := omega) only [↓goDown, goUp, cr, simprocAttr, u38, u2w, u2q, eql_s3, u0b, u09, u0g, low_Z, u0a, hfd, u46, hts, hnb, un_not, h4', h31, u06, u02, u00]
  · have h4' : (v.op = 4) = False := eq_false h4
    have h31 : (v.op = 31) = False := eq_false (fun e => by rw [e, uzm] at hk; cases hk)
    simp +contextual -dsimp (disch := omega) only [↓goDown, goUp, cr, simprocAttr, u38, u2w, u2q, eql_s3, u0b, u09, u0g, low_Z, u0a, hfd, u46, hts, hnb, un_not, h4', h31, u06, u02, u00]
theorem v004 (hv : bare v) (hw : bare w) (l1 : v.labels.l.length < 2 ^ 62) (l2 : v.types.l.length < 2 ^ 62) (l3 : v.catches.l.length < 2 ^ 62) (h0 : -9223372036854775808 ≤ v.op) (h1 : v.op ≤ 9223372036854775807) (hk : formN v.op = 3) (ho : w.op = v.op) (hf : sameF 3 v w) : run (C u0i [.agg (cs_IG v), .agg (cs_IG w)]) H = some (.ok (.bool true) H) := by
  have hfd := fun K => u57 (H := K) h0 h1 hk
  simp only [show ((3 : Nat) : Int) = 3 from rfl] at hfd
  obtain ⟨b1, b2, b3⟩ := hv
  obtain ⟨d1, d2, d3⟩ := hw
  obtain ⟨hb, hc⟩ := hf
  have hts := fun K => ud6 (H := K) (v := v.block.res)
  have hnb := fun K => u9n (H := K)
  have hcs := fun K => uo8 (H := K) (z := v.catches.z) (z' := w.catches.z) l3
  rw [u0y]
  unfold cs_IG
  rw [b1, b2, b3, d1, d2, d3, ho]
  simp only [hb, hc]
  by_cases h4 : v.op = 4
  · have h4' : (v.op = 4) = True := eq_true h4
    have h31 : (v.op = 31) = False := eq_false (by omega)
    simp +contextual -dsimp (disch := omega) only [↓goDown, goUp, cr, simprocAttr, u38, u2w, u2q, eql_s3, u0b, u09, u0g, low_Z, u0a, hfd, u46, hts, hnb, un_not, hcs, h4', h31, u06, u02, u00]
  · have h4' : (v.op = 4) = False := eq_false h4
    by_cases h31 : v.op = 31
    · have h31' : (v.op = 31) = True := eq_true h31
      simp +contextual -dsimp (disch := omega) only [↓goDown, goUp, cr, simprocAttr, u38, u2w, u2q, eql_s3, u0b, u09, u0g, low_Z, u0a, hfd, u46, hts, hnb, un_not, hcs, h4', h31', u06, u02, u00]
    · have h31' : (v.op = 31) = False := eq_false h31
      simp +contextual -dsimp (disch := omega) only [↓goDown, goUp, cr, simprocAttr, u38, u2w, u2q, eql_s3, u0b, u09, u0g, low_Z, u0a, hfd, u46, hts, hnb, un_not, hcs, h4', h31', u06, u02, u00]
theorem uzf (hv : bare v) (hw : bare w) (l1 : v.labels.l.length < 2 ^ 62) (l2 : v.types.l.length < 2 ^ 62) (l3 : v.catches.l.length < 2 ^ 62) (h0 : -9223372036854775808 ≤ v.op) (h1 : v.op ≤ 9223372036854775807) (hk : formN v.op = 4) (ho : w.op = v.op) (hf : sameF 4 v w) : run (C u0i [.agg (cs_IG v), .agg (cs_IG w)]) H = some (.ok (.bool true) H) := by
  have hfd := fun K => u57 (H := K) h0 h1 hk
  simp only [show ((4 : Nat) : Int) = 4 from rfl] at hfd
  obtain ⟨b1, b2, b3⟩ := hv
  obtain ⟨d1, d2, d3⟩ := hw
  have hx := hf
  simp only [sameF] at hx
  rw [u0y]
  unfold cs_IG
  rw [b1, b2, b3, d1, d2, d3, ho]
  simp only [hx]
  simp +contextual -dsimp (disch := omega) only [↓goDown, goUp, cr, simprocAttr, u38, u2w, u2q, eql_s3, u0b, u09, u0g, low_Z, u0a, hfd, u46, u06, u02, u00]
theorem uzv (hv : bare v) (hw : bare w) (l1 : v.labels.l.length < 2 ^ 62) (l2 : v.types.l.length < 2 ^ 62) (l3 : v.catches.l.length < 2 ^ 62) (h0 : -9223372036854775808 ≤ v.op) (h1 : v.op ≤ 9223372036854775807) (hk : formN v.op = 5) (ho : w.op = v.op) (hf : sameF 5 v w) : run (C u0i [.agg (cs_IG v), .agg (cs_IG w)]) H = some (.ok (.bool true) H) := by
  have hfd := fun K => u57 (H := K) h0 h1 hk
  simp only [show ((5 : Nat) : Int) = 5 from rfl] at hfd
  obtain ⟨b1, b2, b3⟩ := hv
  obtain ⟨d1, d2, d3⟩ := hw
  obtain ⟨hx, hy⟩ := hf
  rw [u0y]
  unfold cs_IG
  rw [b1, b2, b3, d1, d2, d3, ho]
  simp only [hx, hy]
  simp +contextual -dsimp (disch := omega) only [↓goDown, goUp, cr, simprocAttr, u38, u2w, u2q, eql_s3, u0b, u09, u0g, low_Z, u0a, hfd, u46, u06, u02, u00]
theorem v000 (hv : bare v) (hw : bare w) (l1 : v.labels.l.length < 2 ^ 62) (l2 : v.types.l.length < 2 ^ 62) (l3 : v.catches.l.length < 2 ^ 62) (h0 : -9223372036854775808 ≤ v.op) (h1 : v.op ≤ 9223372036854775807) (hk : formN v.op = 6) (ho : w.op = v.op) (hf : sameF 6 v w) : run (C u0i [.agg (cs_IG v), .agg (cs_IG w)]) H = some (.ok (.bool true) H) := by
  have hfd := fun K => u57 (H := K) h0 h1 hk
  simp only [show ((6 : Nat) : Int) = 6 from rfl] at hfd
  obtain ⟨b1, b2, b3⟩ := hv
  obtain ⟨d1, d2, d3⟩ := hw
  obtain ⟨hx, hl⟩ := hf
  have hls := fun K => uns (H := K) (z := v.labels.z) (z' := w.labels.z) l1
  rw [u0y]
  unfold cs_IG
  rw [b1, b2, b3, d1, d2, d3, ho]
  simp only [hx, hl]
  simp +contextual -dsimp (disch := omega) only [↓goDown, goUp, cr, simprocAttr, u38, u2w, u2q, eql_s3, u0b, u09, u0g, low_Z, u0a, hfd, u46, hls, u06, u02, u00]
theorem v00i (hv : bare v) (hw : bare w) (l1 : v.labels.l.length < 2 ^ 62) (l2 : v.types.l.length < 2 ^ 62) (l3 : v.catches.l.length < 2 ^ 62) (h0 : -9223372036854775808 ≤ v.op) (h1 : v.op ≤ 9223372036854775807) (hk : formN v.op = 7) (ho : w.op = v.op) (hf : sameF 7 v w) : run (C u0i [.agg (cs_IG v), .agg (cs_IG w)]) H = some (.ok (.bool true) H) := by
  have hfd := fun K => u57 (H := K) h0 h1 hk
  simp only [show ((7 : Nat) : Int) = 7 from rfl] at hfd
  obtain ⟨b1, b2, b3⟩ := hv
  obtain ⟨d1, d2, d3⟩ := hw
  have ht := hf
  simp only [sameF] at ht
  have hts := fun K => u8l (H := K) (z := v.types.z) (z' := w.types.z) l2
  rw [u0y]
  unfold cs_IG
  rw [b1, b2, b3, d1, d2, d3, ho]
  simp only [ht]
  simp +contextual -dsimp (disch := omega) only [↓goDown, goUp, cr, simprocAttr, u38, u2w, u2q, eql_s3, u0b, u09, u0g, low_Z, u0a, hfd, u46, hts, u06, u02, u00]
theorem uyv (hv : bare v) (hw : bare w) (l1 : v.labels.l.length < 2 ^ 62) (l2 : v.types.l.length < 2 ^ 62) (l3 : v.catches.l.length < 2 ^ 62) (h0 : -9223372036854775808 ≤ v.op) (h1 : v.op ≤ 9223372036854775807) (hk : formN v.op = 8) (ho : w.op = v.op) (hf : sameF 8 v w) : run (C u0i [.agg (cs_IG v), .agg (cs_IG w)]) H = some (.ok (.bool true) H) := by
  have hfd := fun K => u57 (H := K) h0 h1 hk
  simp only [show ((8 : Nat) : Int) = 8 from rfl] at hfd
  obtain ⟨b1, b2, b3⟩ := hv
  obtain ⟨d1, d2, d3⟩ := hw
  have hm := hf
  simp only [sameF] at hm
  rw [u0y]
  unfold cs_IG
  rw [b1, b2, b3, d1, d2, d3, ho]
  simp only [hm]
  simp +contextual -dsimp (disch := omega) only [↓goDown, goUp, cr, simprocAttr, u38, u2w, u2q, eql_s3, u0b, u09, u0g, low_Z, u0a, hfd, u46, u06, u02, u00]
theorem uzu (hv : bare v) (hw : bare w) (l1 : v.labels.l.length < 2 ^ 62) (l2 : v.types.l.length < 2 ^ 62) (l3 : v.catches.l.length < 2 ^ 62) (h0 : -9223372036854775808 ≤ v.op) (h1 : v.op ≤ 9223372036854775807) (hk : formN v.op = 9) (ho : w.op = v.op) (hf : sameF 9 v w) : run (C u0i [.agg (cs_IG v), .agg (cs_IG w)]) H = some (.ok (.bool true) H) := by
  have hfd := fun K => u57 (H := K) h0 h1 hk
  simp only [show ((9 : Nat) : Int) = 9 from rfl] at hfd
  obtain ⟨b1, b2, b3⟩ := hv
  obtain ⟨d1, d2, d3⟩ := hw
  have hn := hf
  simp only [sameF] at hn
  rw [u0y]
  unfold cs_IG
  rw [b1, b2, b3, d1, d2, d3, ho]
  simp only [hn]
  simp +contextual -dsimp (disch := omega) only [↓goDown, goUp, cr, simprocAttr, u38, u2w, u2q, eql_s3, u0b, u09, u0g, low_Z, u0a, hfd, u46, u06, u02, u00]
theorem uy4 (hv : bare v) (hw : bare w) (l1 : v.labels.l.length < 2 ^ 62) (l2 : v.types.l.length < 2 ^ 62) (l3 : v.catches.l.length < 2 ^ 62) (h0 : -9223372036854775808 ≤ v.op) (h1 : v.op ≤ 9223372036854775807) (hk : formN v.op = 10) (ho : w.op = v.op) (hf : sameF 10 v w) : run (C u0i [.agg (cs_IG v), .agg (cs_IG w)]) H = some (.ok (.bool true) H) := by
  have hfd := fun K => u57 (H := K) h0 h1 hk
  simp only [show ((10 : Nat) : Int) = 10 from rfl] at hfd
  obtain ⟨b1, b2, b3⟩ := hv
  obtain ⟨d1, d2, d3⟩ := hw
  have hn := hf
  simp only [sameF] at hn
  rw [u0y]
  unfold cs_IG
  rw [b1, b2, b3, d1, d2, d3, ho]
  simp only [hn]
  simp +contextual -dsimp (disch := omega) only [↓goDown, goUp, cr, simprocAttr, u38, u2w, u2q, eql_s3, u0b, u09, u0g, low_Z, u0a, hfd, u46, u06, u02, u00]
theorem uy0 (hv : bare v) (hw : bare w) (l1 : v.labels.l.length < 2 ^ 62) (l2 : v.types.l.length < 2 ^ 62) (l3 : v.catches.l.length < 2 ^ 62) (h0 : -9223372036854775808 ≤ v.op) (h1 : v.op ≤ 9223372036854775807) (hk : formN v.op = 11) (ho : w.op = v.op) (hf : sameF 11 v w) : run (C u0i [.agg (cs_IG v), .agg (cs_IG w)]) H = some (.ok (.bool true) H) := by
  have hfd := fun K => u57 (H := K) h0 h1 hk
  simp only [show ((11 : Nat) : Int) = 11 from rfl] at hfd
  obtain ⟨b1, b2, b3⟩ := hv
  obtain ⟨d1, d2, d3⟩ := hw
  have hn := hf
  simp only [sameF] at hn
  rw [u0y]
  unfold cs_IG
  rw [b1, b2, b3, d1, d2, d3, ho]
  simp only [hn]
  simp +contextual -dsimp (disch := omega) only [↓goDown, goUp, cr, simprocAttr, u38, u2w, u2q, eql_s3, u0b, u09, u0g, low_Z, u0a, hfd, u46, u06, u02, u00]
theorem uya (hv : bare v) (hw : bare w) (l1 : v.labels.l.length < 2 ^ 62) (l2 : v.types.l.length < 2 ^ 62) (l3 : v.catches.l.length < 2 ^ 62) (h0 : -9223372036854775808 ≤ v.op) (h1 : v.op ≤ 9223372036854775807) (hk : formN v.op = 12) (ho : w.op = v.op) (hf : sameF 12 v w) : run (C u0i [.agg (cs_IG v), .agg (cs_IG w)]) H = some (.ok (.bool true) H) := by
  have hfd := fun K => u57 (H := K) h0 h1 hk
  simp only [show ((12 : Nat) : Int) = 12 from rfl] at hfd
  obtain ⟨b1, b2, b3⟩ := hv
  obtain ⟨d1, d2, d3⟩ := hw
  have hn := hf
  simp only [sameF] at hn
  rw [u0y]
  unfold cs_IG
  rw [b1, b2, b3, d1, d2, d3, ho]
  simp only [hn]
  simp +contextual -dsimp (disch := omega) only [↓goDown, goUp, cr, simprocAttr, u38, u2w, u2q, eql_s3, u0b, u09, u0g, low_Z, u0a, hfd, u46, u06, u02, u00]
theorem uxz (hv : bare v) (hw : bare w) (l1 : v.labels.l.length < 2 ^ 62) (l2 : v.types.l.length < 2 ^ 62) (l3 : v.catches.l.length < 2 ^ 62) (h0 : -9223372036854775808 ≤ v.op) (h1 : v.op ≤ 9223372036854775807) (hk : formN v.op = 13) (ho : w.op = v.op) (hf : sameF 13 v w) : run (C u0i [.agg (cs_IG v), .agg (cs_IG w)]) H = some (.ok (.bool true) H) := by
  have hfd := fun K => u57 (H := K) h0 h1 hk
  simp only [show ((13 : Nat) : Int) = 13 from rfl] at hfd
  obtain ⟨b1, b2, b3⟩ := hv
  obtain ⟨d1, d2, d3⟩ := hw
  have ht := hf
  simp only [sameF] at ht
  have hts := fun K => u8l (H := K) (z := v.types.z) (z' := w.types.z) l2
  rw [u0y]
  unfold cs_IG
  rw [b1, b2, b3, d1, d2, d3, ho]
  simp only [ht]
  simp +contextual -dsimp (disch := omega) only [↓goDown, goUp, cr, simprocAttr, u38, u2w, u2q, eql_s3, u0b, u09, u0g, low_Z, u0a, hfd, u46, hts, u06, u02, u00]
theorem uyj (hv : bare v) (hw : bare w) (l1 : v.labels.l.length < 2 ^ 62) (l2 : v.types.l.length < 2 ^ 62) (l3 : v.catches.l.length < 2 ^ 62) (h0 : -9223372036854775808 ≤ v.op) (h1 : v.op ≤ 9223372036854775807) (hk : formN v.op = 14) (ho : w.op = v.op) (hf : sameF 14 v w) : run (C u0i [.agg (cs_IG v), .agg (cs_IG w)]) H = some (.ok (.bool true) H) := by
  have hfd := fun K => u57 (H := K) h0 h1 hk
  simp only [show ((14 : Nat) : Int) = 14 from rfl] at hfd
  obtain ⟨b1, b2, b3⟩ := hv
  obtain ⟨d1, d2, d3⟩ := hw
  have ht := hf
  simp only [sameF] at ht
  have hts := fun K => u8l (H := K) (z := v.types.z) (z' := w.types.z) l2
  rw [u0y]
  unfold cs_IG
  rw [b1, b2, b3, d1, d2, d3, ho]
  simp only [ht]
  simp +contextual -dsimp (disch := omega) only [↓goDown, goUp, cr, simprocAttr, u38, u2w, u2q, eql_s3, u0b, u09, u0g, low_Z, u0a, hfd, u46, hts, u06, u02, u00]
theorem uym (hv : bare v) (hw : bare w) (l1 : v.labels.l.length < 2 ^ 62) (l2 : v.types.l.length < 2 ^ 62) (l3 : v.catches.l.length < 2 ^ 62) (h0 : -9223372036854775808 ≤ v.op) (h1 : v.op ≤ 9223372036854775807) (hk : formN v.op = 15) (ho : w.op = v.op) (hf : sameF 15 v w) : run (C u0i [.agg (cs_IG v), .agg (cs_IG w)]) H = some (.ok (.bool true) H) := by
  have hfd := fun K => u57 (H := K) h0 h1 hk
  simp only [show ((15 : Nat) : Int) = 15 from rfl] at hfd
  obtain ⟨b1, b2, b3⟩ := hv
  obtain ⟨d1, d2, d3⟩ := hw
  obtain ⟨hx, ht⟩ := hf
  have hts := fun K => u8l (H := K) (z := v.types.z) (z' := w.types.z) l2
  rw [u0y]
  unfold cs_IG
  rw [b1, b2, b3, d1, d2, d3, ho]
  simp only [hx, ht]
  simp +contextual -dsimp (disch := omega) only [↓goDown, goUp, cr, simprocAttr, u38, u2w, u2q, eql_s3, u0b, u09, u0g, low_Z, u0a, hfd, u46, hts, u06, u02, u00]
theorem uxg (hv : bare v) (hw : bare w) (l1 : v.labels.l.length < 2 ^ 62) (l2 : v.types.l.length < 2 ^ 62) (l3 : v.catches.l.length < 2 ^ 62) (h0 : -9223372036854775808 ≤ v.op) (h1 : v.op ≤ 9223372036854775807) (hk : formN v.op = 16) (ho : w.op = v.op) (hf : sameF 16 v w) : run (C u0i [.agg (cs_IG v), .agg (cs_IG w)]) H = some (.ok (.bool true) H) := by
  have hfd := fun K => u57 (H := K) h0 h1 hk
  simp only [show ((16 : Nat) : Int) = 16 from rfl] at hfd
  obtain ⟨b1, b2, b3⟩ := hv
  obtain ⟨d1, d2, d3⟩ := hw
  obtain ⟨hx, hn⟩ := hf
  rw [u0y]
  unfold cs_IG
  rw [b1, b2, b3, d1, d2, d3, ho]
  simp only [hx, hn]
  simp +contextual -dsimp (disch := omega) only [↓goDown, goUp, cr, simprocAttr, u38, u2w, u2q, eql_s3, u0b, u09, u0g, low_Z, u0a, hfd, u46, u06, u02, u00]
theorem uxw (hv : bare v) (hw : bare w) (l1 : v.labels.l.length < 2 ^ 62) (l2 : v.types.l.length < 2 ^ 62) (l3 : v.catches.l.length < 2 ^ 62) (h0 : -9223372036854775808 ≤ v.op) (h1 : v.op ≤ 9223372036854775807) (ho : w.op = v.op) (hf : sameF (formN v.op) v w) : run (C u0i [.agg (cs_IG v), .agg (cs_IG w)]) H = some (.ok (.bool true) H) := by
  have hl := uc9 v.op
  generalize hk : formN v.op = k at hl hf
  have h : k = 0 ∨ k = 1 ∨ k = 2 ∨ k = 3 ∨ k = 4 ∨ k = 5 ∨ k = 6 ∨ k = 7 ∨ k = 8 ∨ k = 9 ∨ k = 10 ∨ k = 11 ∨ k = 12 ∨ k = 13 ∨ k = 14 ∨ k = 15 ∨ k = 16 := by omega
  rcases h with rfl | rfl | rfl | rfl | rfl | rfl | rfl | rfl | rfl | rfl | rfl | rfl | rfl | rfl | rfl | rfl | rfl
  · exact v00e hv hw l1 l2 l3 h0 h1 hk ho hf
  · exact uzw hv hw l1 l2 l3 h0 h1 hk ho hf
  · exact uyu hv hw l1 l2 l3 h0 h1 hk ho hf
  · exact v004 hv hw l1 l2 l3 h0 h1 hk ho hf
  · exact uzf hv hw l1 l2 l3 h0 h1 hk ho hf
  · exact uzv hv hw l1 l2 l3 h0 h1 hk ho hf
  · exact v000 hv hw l1 l2 l3 h0 h1 hk ho hf
  · exact v00i hv hw l1 l2 l3 h0 h1 hk ho hf
  · exact uyv hv hw l1 l2 l3 h0 h1 hk ho hf
  · exact uzu hv hw l1 l2 l3 h0 h1 hk ho hf
  · exact uy4 hv hw l1 l2 l3 h0 h1 hk ho hf
  · exact uy0 hv hw l1 l2 l3 h0 h1 hk ho hf
  · exact uya hv hw l1 l2 l3 h0 h1 hk ho hf
  · exact uxz hv hw l1 l2 l3 h0 h1 hk ho hf
  · exact uyj hv hw l1 l2 l3 h0 h1 hk ho hf
  · exact uym hv hw l1 l2 l3 h0 h1 hk ho hf
  · exact uxg hv hw l1 l2 l3 h0 h1 hk ho hf
end Go.Proofs.YthidcpkcfoldmaaGreat.Pi.Q
namespace Go.Proofs.YthidcpkcfoldmaaGreat.Pi.Q
open Go Go.Proofs.YthidcpkcfoldmaaGreat.Pi
attribute [local congr] ite_congr
variable {H : Heap} {b : List UInt8} {z : Bool} {v : II} {u : List UInt8}
theorem iOp_ne {op : Int} : (iOp op).1 ≠ [] := by
  unfold iOp
  simp only
  split <;> simp
theorem ux6 (h : wInstr v u) : u ≠ [] := by
  obtain ⟨x, h1, h2, rfl⟩ := h
  intro g
  exact iOp_ne (List.append_eq_nil_iff.mp g).1
theorem LZ_BS (h : u ≠ []) : LZ true 1 (bytes u) = BS false u := by
  cases u with
  | nil => exact absurd rfl h
  | cons a l => rfl
theorem urk : strip (accB u) = LZ true 1 (bytes u) := by cases u <;> rfl
theorem uxj (h : wInstr v u) (hs : u.length ≤ 140737488355328) : run (C u4l [.agg (csII v)]) H = some (.ok (.tup [accB u, .int .i64 0]) H) := by
  obtain ⟨h1, h2⟩ := uum h
  have := uua (H := H) h2 (by rw [h1]; exact hs)
  rw [h1] at this
  rw [utd]
  exact this
theorem uzx (hv : v.fit) (h0 : -9223372036854775808 ≤ v.op) (h1 : v.op ≤ 9223372036854775807) : run (C u0i [.agg (csII v), .agg (csII v)]) H = some (.ok (.bool true) H) := by
  have hb : bare v.ig := ⟨rfl, rfl, rfl⟩
  rw [utd]
  refine uxw hb hb ?_ hv.2.1 ?_ h0 h1 rfl ?_
  · show (v.la.map _).length < _
    rw [List.length_map]
    exact hv.1
  · show (v.ca.map _).length < _
    rw [List.length_map]
    exact hv.2.2
  · generalize formN v.ig.op = k
    unfold sameF
    split <;> simp only [and_self]
theorem ileast_true (hb : b.length ≤ 140737488355328) {a : Int} : run (C u66 [BS z b, .int .i64 a]) H = some (.ok (.bool true) H) := by
  have hw := fun K => utf (H := K)
  rw [u7q]
  by_cases h : a < 0 ∨ (b.length : Int) < a
  · have h1 := fun K => uvh (H := K) (z := z) h
    unfold zeroI at h1
    simp +contextual -dsimp (disch := omega) only [↓goDown, goUp, cr, simprocAttr, h1, hw]
  · obtain ⟨n, rfl⟩ := Int.eq_ofNat_of_zero_le (show 0 ≤ a by omega)
    have hp : n ≤ b.length := by omega
    have h1 := fun K => uqq (H := K) (z := z) (show b.length < 2 ^ 61 by omega) hp
    simp only [resI_I] at h1
    by_cases h0 : (readI b n).2.why = 0
    · obtain ⟨u, hi, hl⟩ := unr h0
      have hle := uwq hp
      have hs := fun K => uxj (H := K) hi (by omega)
      have hg := urd hi (v00h (u := u))
      obtain ⟨hf, g0, g1⟩ := uta (b := b) (a := n)
      have hm := fun K => uzx (H := K) hf (by omega) (by omega)
      have h2 := fun K => uqq (H := K) (z := false) (b := u) (at_ := 0) (by omega) (by omega)
      simp only [resI_I, hg] at h2
      rw [← LZ_BS (ux6 hi)] at h2
      simp only [if_pos h0] at h1
      simp only [if_true, Nat.zero_add, show ((0 : Nat) : Int) = 0 from rfl] at h2
      have c1 : ((((readI b n).2.p : Int) - (n : Int)) < (u.length : Int)) = False := eq_false (by omega)
      have w1 : IntKind.i64.wrap (((readI b n).2.p : Int) - (n : Int)) = ((readI b n).2.p : Int) - (n : Int) := w_i64 (by omega)
      generalize readI b n = r at h1 hs hm h2 c1 w1
      obtain ⟨v, q⟩ := r
      unfold csII at *
      simp +contextual -dsimp (disch := omega) only [↓goDown, goUp, cr, simprocAttr, h1, hs, urk, ujb, u0b, u0z, u87, ln_Z, List.length_map, c1, w1, h2, u38, hm, hw, uzn, uws, v006, low_P, uys, v00g]
    · have hn : (((readI b n).2.why : Int) = 0) = False := eq_false (by omega)
      simp only [if_neg h0] at h1
      unfold csII at h1
      simp +contextual -dsimp (disch := omega) only [↓goDown, goUp, cr, simprocAttr, h1, hn, hw, List.map_nil, uw4]
end Go.Proofs.YthidcpkcfoldmaaGreat.Pi.Q
