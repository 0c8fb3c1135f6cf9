/- What the law rests on, part 6 of 6: a reading of the program's code over told data, and what it comes to. -/
import Derived.Test.YthidcpkcfoldmaaGreatPiU4
set_option linter.unusedVariables false
set_option linter.unusedSimpArgs false
set_option maxRecDepth 100000
namespace Go.Proofs.YthidcpkcfoldmaaGreat.Pi.Q
open Go Go.Proofs.YthidcpkcfoldmaaGreat.Pi
attribute [local congr] ite_congr
variable {c : Nat} {H : Heap} {L : List Box} {b : List UInt8} {z : Bool} {p bad why : Nat} {m0 m1 m2 m3 m4 m5 m6 m7 m8 m9 m10 m11 m12 m13 m14 m15 m16 : PV}
theorem flT_p {a w : Nat} {t : TS} : (flT a w t).p = t.p := by unfold flT; split <;> rfl
theorem pfT_p {a : Nat} {t : TS} : (pfT a t).p = t.p := by unfold pfT; split <;> rfl
theorem fmT_p {a op : Nat} {t : TS} : (fmT a op t).p = t.p := by
  unfold fmT
  split
  · exact flT_p
  · rfl
theorem v007 {t : TS} (ht : t.p ≤ b.length) : (opcT b t).2.p ≤ b.length := by
  have h1 : (smT b 255 t).2.p ≤ b.length := smT_le ht
  unfold opcT
  split
  · simp only [fmT_p, flT_p]; exact h1
  · split
    · simp only [fmT_p, pfT_p]; exact upT_le h1
    · simp only [fmT_p]; exact h1
theorem v00c (hno : (smT b 255 ⟨p, bad, why⟩).2.why ≠ 0) (hb : b.length < 2 ^ 61) (hc : c < List.length H) : runK c (C u1u [.ptr c 0]) (St H c (.cells [BS z b, .int .i64 p, m0, m1, m2, m3, m4, m5, m6, m7, m8, m9, m10, m11, m12, m13, m14, m15, m16, .int .i64 bad, .int .i64 why]) L) = some (.ok (.int .i64 0) (St H c (.cells [BS z b, .int .i64 ((smT b 255 ⟨p, bad, why⟩).2.p : Nat), m0, m1, m2, m3, m4, m5, m6, m7, m8, m9, m10, m11, m12, m13, m14, m15, m16, .int .i64 ((smT b 255 ⟨p, bad, why⟩).2.bad : Nat), .int .i64 ((smT b 255 ⟨p, bad, why⟩).2.why : Nat)]) L)) := liftT (fun H hc => by
  have hs := fun L => uju (c := c) (H := H) (L := L) (b := b) (z := z) (p := p) (bad := bad) (why := why) (most := 255) (m0 := m0) (m1 := m1) (m2 := m2) (m3 := m3) (m4 := m4) (m5 := m5) (m6 := m6) (m7 := m7) (m8 := m8) (m9 := m9) (m10 := m10) (m11 := m11) (m12 := m12) (m13 := m13) (m14 := m14) (m15 := m15) (m16 := m16) hb hc
  rw [show ((255 : Nat) : Int) = 255 from rfl] at hs
  have sl : (smT b 255 ⟨p, bad, why⟩).1 < 256 := smT_lt
  have hn : ((((smT b 255 ⟨p, bad, why⟩).2.why : Nat) : Int) = 0) = False := eq_false (by omega)
  rw [u6s]
  simp +contextual -dsimp (disch := omega) only [↓kDown, kUp, ↓goDown, goUp, cr, simprocAttr, hs, hn]) hc
theorem iopcS (hok : (smT b 255 ⟨p, bad, why⟩).2.why = 0) (hb : b.length < 2 ^ 61) (hp : p ≤ b.length) (hc : c < List.length H) : runK c (C u1u [.ptr c 0]) (St H c (.cells [BS z b, .int .i64 p, m0, m1, m2, m3, m4, m5, m6, m7, m8, m9, m10, m11, m12, m13, m14, m15, m16, .int .i64 bad, .int .i64 why]) L) = some (.ok (.int .i64 (formN ((opcT b ⟨p, bad, why⟩).1 : Nat) : Nat)) (St H c (.cells [BS z b, .int .i64 ((opcT b ⟨p, bad, why⟩).2.p : Nat), .int .i64 ((opcT b ⟨p, bad, why⟩).1 : Nat), m1, m2, m3, m4, m5, m6, m7, m8, m9, m10, m11, m12, m13, m14, m15, m16, .int .i64 ((opcT b ⟨p, bad, why⟩).2.bad : Nat), .int .i64 ((opcT b ⟨p, bad, why⟩).2.why : Nat)]) L)) := liftT (fun H hc => by
  have hs := fun L => uju (c := c) (H := H) (L := L) (b := b) (z := z) (p := p) (bad := bad) (why := why) (most := 255) (m0 := m0) (m1 := m1) (m2 := m2) (m3 := m3) (m4 := m4) (m5 := m5) (m6 := m6) (m7 := m7) (m8 := m8) (m9 := m9) (m10 := m10) (m11 := m11) (m12 := m12) (m13 := m13) (m14 := m14) (m15 := m15) (m16 := m16) hb hc
  rw [show ((255 : Nat) : Int) = 255 from rfl] at hs
  have sl : (smT b 255 ⟨p, bad, why⟩).1 < 256 := smT_lt
  have s1 : (smT b 255 ⟨p, bad, why⟩).2.p ≤ b.length := smT_le hp
  have hn : ((((smT b 255 ⟨p, bad, why⟩).2.why : Nat) : Int) = 0) = True := eq_true (by omega)
  have ul : (upT b 255 4 (smT b 255 ⟨p, bad, why⟩).2).1 ≤ 255 := upT_lt
  rw [u6s]
  unfold opcT
  by_cases hd : (smT b 255 ⟨p, bad, why⟩).1 = 253
  · have hd' : (((smT b 255 ⟨p, bad, why⟩).1 : Nat) : Int) = 253 := by omega
    have hfl := fun L => ifailS (c := c) (H := H) (L := L) (b := b) (z := z) (p := (smT b 255 ⟨p, bad, why⟩).2.p) (bad := (smT b 255 ⟨p, bad, why⟩).2.bad) (why := (smT b 255 ⟨p, bad, why⟩).2.why) (a := p) (w := 8) (m0 := m0) (m1 := m1) (m2 := m2) (m3 := m3) (m4 := m4) (m5 := m5) (m6 := m6) (m7 := m7) (m8 := m8) (m9 := m9) (m10 := m10) (m11 := m11) (m12 := m12) (m13 := m13) (m14 := m14) (m15 := m15) (m16 := m16) hc
    rw [show ((8 : Nat) : Int) = 8 from rfl] at hfl
    simp only [TS.eta] at hfl
    have he := (fun (op : Nat) (hop : op < 1048576) => ubq (c := c) (H := H) (b := b) (z := z) (p := (smT b 255 ⟨p, bad, why⟩).2.p) (bad := (flT p 8 (smT b 255 ⟨p, bad, why⟩).2).bad) (why := (flT p 8 (smT b 255 ⟨p, bad, why⟩).2).why) (op := op) (a := p) (v2 := .int .i64 0) (m0 := m0) (m1 := m1) (m2 := m2) (m3 := m3) (m4 := m4) (m5 := m5) (m6 := m6) (m7 := m7) (m8 := m8) (m9 := m9) (m10 := m10) (m11 := m11) (m12 := m12) (m13 := m13) (m14 := m14) (m15 := m15) (m16 := m16) hop hb hp hc) 253 (by decide)
    rw [show ((253 : Nat) : Int) = 253 from rfl] at he
    have e1 : (⟨(smT b 255 ⟨p, bad, why⟩).2.p, (flT p 8 (smT b 255 ⟨p, bad, why⟩).2).bad, (flT p 8 (smT b 255 ⟨p, bad, why⟩).2).why⟩ : TS) = flT p 8 (smT b 255 ⟨p, bad, why⟩).2 := by
      rw [← flT_p (a := p) (w := 8) (t := (smT b 255 ⟨p, bad, why⟩).2)]
    rw [e1] at he
    rw [if_pos hd]
    simp +contextual -dsimp (disch := omega) only [↓kDown, kUp, ↓goDown, goUp, cr, simprocAttr, hs, hn, hd', hfl, he] <;> rfl
  · have hd' : ((((smT b 255 ⟨p, bad, why⟩).1 : Nat) : Int) = 253) = False := eq_false (by omega)
    rw [if_neg hd]
    by_cases hq : (smT b 255 ⟨p, bad, why⟩).1 = 251 ∨ (smT b 255 ⟨p, bad, why⟩).1 = 252
    · have hu := fun L => iupToS (c := c) (H := H) (L := L) (b := b) (z := z) (p := (smT b 255 ⟨p, bad, why⟩).2.p) (bad := (smT b 255 ⟨p, bad, why⟩).2.bad) (why := (smT b 255 ⟨p, bad, why⟩).2.why) (most := 255) (e := 4) (m0 := m0) (m1 := m1) (m2 := m2) (m3 := m3) (m4 := m4) (m5 := m5) (m6 := m6) (m7 := m7) (m8 := m8) (m9 := m9) (m10 := m10) (m11 := m11) (m12 := m12) (m13 := m13) (m14 := m14) (m15 := m15) (m16 := m16) (by decide) hb s1 hc
      rw [show ((255 : Nat) : Int) = 255 from rfl, show ((4 : Nat) : Int) = 4 from rfl] at hu
      simp only [TS.eta] at hu
      have h1 := v009 sl
      have h2 := opc_or (k := (upT b 255 4 (smT b 255 ⟨p, bad, why⟩).2).1) sl (by omega)
      have e3 : ((p : Nat) : Int) + 1 = ((p + 1 : Nat) : Int) := by omega
      have hwp : IntKind.i64.wrap ((p + 1 : Nat) : Int) = ((p + 1 : Nat) : Int) := w_i64 (by omega)
      rw [if_pos hq]
      have hqq : ((((smT b 255 ⟨p, bad, why⟩).1 : Nat) : Int) = 251) = True ∨ (((((smT b 255 ⟨p, bad, why⟩).1 : Nat) : Int) = 251) = False ∧ ((((smT b 255 ⟨p, bad, why⟩).1 : Nat) : Int) = 252) = True) := by
        rcases hq with h | h
        · exact .inl (eq_true (by omega))
        · exact .inr ⟨eq_false (by omega), eq_true (by omega)⟩
      by_cases hw4 : (upT b 255 4 (smT b 255 ⟨p, bad, why⟩).2).2.why = 4
      · have hw4' : ((((upT b 255 4 (smT b 255 ⟨p, bad, why⟩).2).2.why : Nat) : Int) = 4) = True := eq_true (by omega)
        by_cases hb1 : (upT b 255 4 (smT b 255 ⟨p, bad, why⟩).2).2.bad = p + 1
        · have hb1' : ((((upT b 255 4 (smT b 255 ⟨p, bad, why⟩).2).2.bad : Nat) : Int) = ((p + 1 : Nat) : Int)) = True := eq_true (by omega)
          have ep : pfT p (upT b 255 4 (smT b 255 ⟨p, bad, why⟩).2).2 = ⟨(upT b 255 4 (smT b 255 ⟨p, bad, why⟩).2).2.p, p, 4⟩ := by unfold pfT; rw [if_pos ⟨hw4, hb1⟩]
          have he := (fun (op : Nat) (hop : op < 1048576) => ubq (c := c) (H := H) (b := b) (z := z) (p := (upT b 255 4 (smT b 255 ⟨p, bad, why⟩).2).2.p) (bad := p) (why := 4) (op := op) (a := p) (v2 := .int .i64 0) (m0 := m0) (m1 := m1) (m2 := m2) (m3 := m3) (m4 := m4) (m5 := m5) (m6 := m6) (m7 := m7) (m8 := m8) (m9 := m9) (m10 := m10) (m11 := m11) (m12 := m12) (m13 := m13) (m14 := m14) (m15 := m15) (m16 := m16) hop hb hp hc) ((smT b 255 ⟨p, bad, why⟩).1 * 256 + (upT b 255 4 (smT b 255 ⟨p, bad, why⟩).2).1) (by omega)
          rw [hw4] at hu
          rw [ep]
          rw [show ((4 : Nat) : Int) = 4 from rfl] at he hu
          rcases hqq with hqa | ⟨hqa, hqb⟩
          · simp +contextual -dsimp (disch := omega) only [↓kDown, kUp, ↓goDown, goUp, cr, simprocAttr, hs, hn, hd', hqa, u87, h1, hu, run_or, h2, e3, hwp, hb1', he]
          · simp +contextual -dsimp (disch := omega) only [↓kDown, kUp, ↓goDown, goUp, cr, simprocAttr, hs, hn, hd', hqa, hqb, u87, h1, hu, run_or, h2, e3, hwp, hb1', he]
        · have hb1' : ((((upT b 255 4 (smT b 255 ⟨p, bad, why⟩).2).2.bad : Nat) : Int) = ((p + 1 : Nat) : Int)) = False := eq_false (by omega)
          have ep : pfT p (upT b 255 4 (smT b 255 ⟨p, bad, why⟩).2).2 = (upT b 255 4 (smT b 255 ⟨p, bad, why⟩).2).2 := by unfold pfT; rw [if_neg (fun h => hb1 h.2)]
          have he := (fun (op : Nat) (hop : op < 1048576) => ubq (c := c) (H := H) (b := b) (z := z) (p := (upT b 255 4 (smT b 255 ⟨p, bad, why⟩).2).2.p) (bad := (upT b 255 4 (smT b 255 ⟨p, bad, why⟩).2).2.bad) (why := (upT b 255 4 (smT b 255 ⟨p, bad, why⟩).2).2.why) (op := op) (a := p) (v2 := .int .i64 0) (m0 := m0) (m1 := m1) (m2 := m2) (m3 := m3) (m4 := m4) (m5 := m5) (m6 := m6) (m7 := m7) (m8 := m8) (m9 := m9) (m10 := m10) (m11 := m11) (m12 := m12) (m13 := m13) (m14 := m14) (m15 := m15) (m16 := m16) hop hb hp hc) ((smT b 255 ⟨p, bad, why⟩).1 * 256 + (upT b 255 4 (smT b 255 ⟨p, bad, why⟩).2).1) (by omega)
          simp only [TS.eta] at he
          rw [ep]
          rcases hqq with hqa | ⟨hqa, hqb⟩
          · simp +contextual -dsimp (disch := omega) only [↓kDown, kUp, ↓goDown, goUp, cr, simprocAttr, hs, hn, hd', hqa, u87, h1, hu, run_or, h2, hw4', e3, hwp, hb1', he]
          · simp +contextual -dsimp (disch := omega) only [↓kDown, kUp, ↓goDown, goUp, cr, simprocAttr, hs, hn, hd', hqa, hqb, u87, h1, hu, run_or, h2, hw4', e3, hwp, hb1', he]
      · have hw4' : ((((upT b 255 4 (smT b 255 ⟨p, bad, why⟩).2).2.why : Nat) : Int) = 4) = False := eq_false (by omega)
        have ep : pfT p (upT b 255 4 (smT b 255 ⟨p, bad, why⟩).2).2 = (upT b 255 4 (smT b 255 ⟨p, bad, why⟩).2).2 := by unfold pfT; rw [if_neg (fun h => hw4 h.1)]
        have he := (fun (op : Nat) (hop : op < 1048576) => ubq (c := c) (H := H) (b := b) (z := z) (p := (upT b 255 4 (smT b 255 ⟨p, bad, why⟩).2).2.p) (bad := (upT b 255 4 (smT b 255 ⟨p, bad, why⟩).2).2.bad) (why := (upT b 255 4 (smT b 255 ⟨p, bad, why⟩).2).2.why) (op := op) (a := p) (v2 := .int .i64 0) (m0 := m0) (m1 := m1) (m2 := m2) (m3 := m3) (m4 := m4) (m5 := m5) (m6 := m6) (m7 := m7) (m8 := m8) (m9 := m9) (m10 := m10) (m11 := m11) (m12 := m12) (m13 := m13) (m14 := m14) (m15 := m15) (m16 := m16) hop hb hp hc) ((smT b 255 ⟨p, bad, why⟩).1 * 256 + (upT b 255 4 (smT b 255 ⟨p, bad, why⟩).2).1) (by omega)
        simp only [TS.eta] at he
        rw [ep]
        rcases hqq with hqa | ⟨hqa, hqb⟩
        · simp +contextual -dsimp (disch := omega) only [↓kDown, kUp, ↓goDown, goUp, cr, simprocAttr, hs, hn, hd', hqa, u87, h1, hu, run_or, h2, hw4', he]
        · simp +contextual -dsimp (disch := omega) only [↓kDown, kUp, ↓goDown, goUp, cr, simprocAttr, hs, hn, hd', hqa, hqb, u87, h1, hu, run_or, h2, hw4', he]
    · have hqa : ((((smT b 255 ⟨p, bad, why⟩).1 : Nat) : Int) = 251) = False := eq_false (by omega)
      have hqb : ((((smT b 255 ⟨p, bad, why⟩).1 : Nat) : Int) = 252) = False := eq_false (by omega)
      have he := (fun (op : Nat) (hop : op < 1048576) => ubq (c := c) (H := H) (b := b) (z := z) (p := (smT b 255 ⟨p, bad, why⟩).2.p) (bad := (smT b 255 ⟨p, bad, why⟩).2.bad) (why := (smT b 255 ⟨p, bad, why⟩).2.why) (op := op) (a := p) (v2 := .int .i64 0) (m0 := m0) (m1 := m1) (m2 := m2) (m3 := m3) (m4 := m4) (m5 := m5) (m6 := m6) (m7 := m7) (m8 := m8) (m9 := m9) (m10 := m10) (m11 := m11) (m12 := m12) (m13 := m13) (m14 := m14) (m15 := m15) (m16 := m16) hop hb hp hc) (smT b 255 ⟨p, bad, why⟩).1 (by omega)
      simp only [TS.eta] at he
      rw [if_neg hq]
      simp +contextual -dsimp (disch := omega) only [↓kDown, kUp, ↓goDown, goUp, cr, simprocAttr, hs, hn, hd', hqa, hqb, he]) hc
end Go.Proofs.YthidcpkcfoldmaaGreat.Pi.Q
namespace Go.Proofs.YthidcpkcfoldmaaGreat.Pi.Q
open Go Go.Proofs.YthidcpkcfoldmaaGreat.Pi
attribute [local congr] ite_congr
variable {c : Nat} {H : Heap} {L : List Box} {b : List UInt8} {z : Bool} {p bad why op : Nat}
def imm (k op : Nat) (b : List UInt8) (t : TS) : List PV × TS :=
  match k with
  | 2 => ([.int .i64 (op : Nat), .int .u32 0, .int .u32 0, .int .u64 0, .int .u32 0, .int .u32 0, .int .u64 0, .int .i64 (tk (⟨0, ⟨0, false, 0⟩⟩ : BK) (rBlock b) t).1.ty, .int .i64 (tk (⟨0, ⟨0, false, 0⟩⟩ : BK) (rBlock b) t).1.res.num, .bool (tk (⟨0, ⟨0, false, 0⟩⟩ : BK) (rBlock b) t).1.res.nul, .int .i64 (tk (⟨0, ⟨0, false, 0⟩⟩ : BK) (rBlock b) t).1.res.heap, .slice false true 0 [], .slice false true 0 [], .bool false, .slice false true 0 [], .slice false true 0 [], .slice false true 0 []], (tk (⟨0, ⟨0, false, 0⟩⟩ : BK) (rBlock b) t).2)
  | 3 => ([.int .i64 (op : Nat), .int .u32 0, .int .u32 0, .int .u64 0, .int .u32 0, .int .u32 0, .int .u64 0, .int .i64 (tk (⟨0, ⟨0, false, 0⟩⟩ : BK) (rBlock b) t).1.ty, .int .i64 (tk (⟨0, ⟨0, false, 0⟩⟩ : BK) (rBlock b) t).1.res.num, .bool (tk (⟨0, ⟨0, false, 0⟩⟩ : BK) (rBlock b) t).1.res.nul, .int .i64 (tk (⟨0, ⟨0, false, 0⟩⟩ : BK) (rBlock b) t).1.res.heap, .slice false true 0 [], .slice false true 0 [], .bool false, .slice false true 0 [], .slice false true 0 [], accP 3 ((repC (clT b) (upT b 65536 2 (tk (⟨0, ⟨0, false, 0⟩⟩ : BK) (rBlock b) t).2).1 [] (upT b 65536 2 (tk (⟨0, ⟨0, false, 0⟩⟩ : BK) (rBlock b) t).2).2).1.map encCN)], (repC (clT b) (upT b 65536 2 (tk (⟨0, ⟨0, false, 0⟩⟩ : BK) (rBlock b) t).2).1 [] (upT b 65536 2 (tk (⟨0, ⟨0, false, 0⟩⟩ : BK) (rBlock b) t).2).2).2)
  | 4 => ([.int .i64 (op : Nat), .int .u32 ((tk (0 : Nat) (rdU b 32 b.length) t).1 : Nat), .int .u32 0, .int .u64 0, .int .u32 0, .int .u32 0, .int .u64 0, .int .i64 0, .int .i64 0, .bool false, .int .i64 0, .slice false true 0 [], .slice false true 0 [], .bool false, .slice false true 0 [], .slice false true 0 [], .slice false true 0 []], (tk (0 : Nat) (rdU b 32 b.length) t).2)
  | 5 => ([.int .i64 (op : Nat), .int .u32 ((tk (0 : Nat) (rdU b 32 b.length) t).1 : Nat), .int .u32 ((tk (0 : Nat) (rdU b 32 b.length) (tk (0 : Nat) (rdU b 32 b.length) t).2).1 : Nat), .int .u64 0, .int .u32 0, .int .u32 0, .int .u64 0, .int .i64 0, .int .i64 0, .bool false, .int .i64 0, .slice false true 0 [], .slice false true 0 [], .bool false, .slice false true 0 [], .slice false true 0 [], .slice false true 0 []], (tk (0 : Nat) (rdU b 32 b.length) (tk (0 : Nat) (rdU b 32 b.length) t).2).2)
  | 6 => ([.int .i64 (op : Nat), tabM b (upT b 65536 2 t).1 [] (upT b 65536 2 t).2 (.int .u32 0), .int .u32 0, .int .u64 0, .int .u32 0, .int .u32 0, .int .u64 0, .int .i64 0, .int .i64 0, .bool false, .int .i64 0, .slice false true 0 [], .slice false true 0 [], .bool false, accP 1 ((labR b (upT b 65536 2 t).1 [] (upT b 65536 2 t).2).1.1.map encN), .slice false true 0 [], .slice false true 0 []], (tabT b (upT b 65536 2 t).1 [] (upT b 65536 2 t).2))
  | 7 => ([.int .i64 (op : Nat), .int .u32 0, .int .u32 0, .int .u64 0, .int .u32 0, .int .u32 0, .int .u64 0, .int .i64 0, .int .i64 0, .bool false, .int .i64 0, .slice false true 0 [], .slice false true 0 [], .bool false, .slice false true 0 [], accP 3 ((valR b (upT b 1000 2 t).1 [] (upT b 1000 2 t).2).1.1.map encV), .slice false true 0 []], (valR b (upT b 1000 2 t).1 [] (upT b 1000 2 t).2).1.2)
  | 8 => ([.int .i64 (op : Nat), .int .u32 0, .int .u32 0, .int .u64 0, .int .u32 ((upT b 127 4 t).1 % 64 : Nat), memM b t (.int .u32 0), .int .u64 ((tk (0 : Nat) (rdU b 64 b.length) (memT b t)).1 : Nat), .int .i64 0, .int .i64 0, .bool false, .int .i64 0, .slice false true 0 [], .slice false true 0 [], .bool false, .slice false true 0 [], .slice false true 0 [], .slice false true 0 []], (tk (0 : Nat) (rdU b 64 b.length) (memT b t)).2)
  | 9 => ([.int .i64 (op : Nat), .int .u32 0, .int .u32 0, .int .u64 (IntKind.u64.wrap (IntKind.u32.wrap (IntKind.i32.wrap (tk (0 : Int) (rdS b 32 b.length) t).1))), .int .u32 0, .int .u32 0, .int .u64 0, .int .i64 0, .int .i64 0, .bool false, .int .i64 0, .slice false true 0 [], .slice false true 0 [], .bool false, .slice false true 0 [], .slice false true 0 [], .slice false true 0 []], (tk (0 : Int) (rdS b 32 b.length) t).2)
  | 10 => ([.int .i64 (op : Nat), .int .u32 0, .int .u32 0, .int .u64 (IntKind.u64.wrap (tk (0 : Int) (rdS b 64 b.length) t).1), .int .u32 0, .int .u32 0, .int .u64 0, .int .i64 0, .int .i64 0, .bool false, .int .i64 0, .slice false true 0 [], .slice false true 0 [], .bool false, .slice false true 0 [], .slice false true 0 [], .slice false true 0 []], (tk (0 : Int) (rdS b 64 b.length) t).2)
  | 11 => ([.int .i64 (op : Nat), .int .u32 0, .int .u32 0, .int .u64 ((tk (0 : Nat) (rdF b 4 b.length) t).1 : Nat), .int .u32 0, .int .u32 0, .int .u64 0, .int .i64 0, .int .i64 0, .bool false, .int .i64 0, .slice false true 0 [], .slice false true 0 [], .bool false, .slice false true 0 [], .slice false true 0 [], .slice false true 0 []], (tk (0 : Nat) (rdF b 4 b.length) t).2)
  | 12 => ([.int .i64 (op : Nat), .int .u32 0, .int .u32 0, .int .u64 ((tk (0 : Nat) (rdF b 8 b.length) t).1 : Nat), .int .u32 0, .int .u32 0, .int .u64 0, .int .i64 0, .int .i64 0, .bool false, .int .i64 0, .slice false true 0 [], .slice false true 0 [], .bool false, .slice false true 0 [], .slice false true 0 [], .slice false true 0 []], (tk (0 : Nat) (rdF b 8 b.length) t).2)
  | 13 => ([.int .i64 (op : Nat), .int .u32 0, .int .u32 0, .int .u64 0, .int .u32 0, .int .u32 0, .int .u64 0, .int .i64 0, .int .i64 0, .bool false, .int .i64 0, .slice false true 0 [], .slice false true 0 [], .bool false, .slice false true 0 [], accP 3 ([(⟨5, true, (tk (0 : Int) (rHeap b) t).1⟩ : VT)].map encV), .slice false true 0 []], (tk (0 : Int) (rHeap b) t).2)
  | 14 => ([.int .i64 (op : Nat), .int .u32 0, .int .u32 0, .int .u64 0, .int .u32 0, .int .u32 0, .int .u64 0, .int .i64 0, .int .i64 0, .bool false, .int .i64 0, .slice false true 0 [], .slice false true 0 [], .bool false, .slice false true 0 [], accP 3 ([(⟨5, ((op : Int) % 2 == 1), (tk (0 : Int) (rHeap b) t).1⟩ : VT)].map encV), .slice false true 0 []], (tk (0 : Int) (rHeap b) t).2)
  | 15 => ([.int .i64 (op : Nat), .int .u32 ((tk (0 : Nat) (rdU b 32 b.length) (smT b 3 t).2).1 : Nat), .int .u32 0, .int .u64 0, .int .u32 0, .int .u32 0, .int .u64 0, .int .i64 0, .int .i64 0, .bool false, .int .i64 0, .slice false true 0 [], .slice false true 0 [], .bool false, .slice false true 0 [], accP 3 ([(⟨5, ((smT b 3 t).1 % 2 != 0), (tk (0 : Int) (rHeap b) (tk (0 : Nat) (rdU b 32 b.length) (smT b 3 t).2).2).1⟩ : VT), (⟨5, ((smT b 3 t).1 / 2 % 2 * 2 != 0), (tk (0 : Int) (rHeap b) (tk (0 : Int) (rHeap b) (tk (0 : Nat) (rdU b 32 b.length) (smT b 3 t).2).2).2).1⟩ : VT)].map encV), .slice false true 0 []], (tk (0 : Int) (rHeap b) (tk (0 : Int) (rHeap b) (tk (0 : Nat) (rdU b 32 b.length) (smT b 3 t).2).2).2).2)
  | 16 => ([.int .i64 (op : Nat), .int .u32 ((tk (0 : Nat) (rdU b 32 b.length) t).1 : Nat), .int .u32 0, .int .u64 ((tk (0 : Nat) (rdU b 32 b.length) (tk (0 : Nat) (rdU b 32 b.length) t).2).1 : Nat), .int .u32 0, .int .u32 0, .int .u64 0, .int .i64 0, .int .i64 0, .bool false, .int .i64 0, .slice false true 0 [], .slice false true 0 [], .bool false, .slice false true 0 [], .slice false true 0 [], .slice false true 0 []], (tk (0 : Nat) (rdU b 32 b.length) (tk (0 : Nat) (rdU b 32 b.length) t).2).2)
  | _ => ([.int .i64 (op : Nat), .int .u32 0, .int .u32 0, .int .u64 0, .int .u32 0, .int .u32 0, .int .u64 0, .int .i64 0, .int .i64 0, .bool false, .int .i64 0, .slice false true 0 [], .slice false true 0 [], .bool false, .slice false true 0 [], .slice false true 0 [], .slice false true 0 []], t)
def rdBox (z : Bool) (b : List UInt8) (r : List PV × TS) : Box := .cells ([BS z b, .int .i64 r.2.p] ++ (r.1 ++ [.int .i64 r.2.bad, .int .i64 r.2.why]))
theorem imm_2 (hb : b.length < 2 ^ 61) (hp : p ≤ b.length) (hc : c < List.length H) : runK c (C u21 [.ptr c 0]) (St H c (.cells [BS z b, .int .i64 p, .int .i64 (op : Nat), .int .u32 0, .int .u32 0, .int .u64 0, .int .u32 0, .int .u32 0, .int .u64 0, .int .i64 0, .int .i64 0, .bool false, .int .i64 0, .slice false true 0 [], .slice false true 0 [], .bool false, .slice false true 0 [], .slice false true 0 [], .slice false true 0 [], .int .i64 bad, .int .i64 why]) L) = some (.ok (.tup []) (St H c (rdBox z b (imm 2 op b ⟨p, bad, why⟩)) L)) :=
  usl (c := c) (H := H) (L := L) (b := b) (z := z) (p := p) (bad := bad) (why := why) (m0 := .int .i64 (op : Nat)) (m1 := .int .u32 0) (m2 := .int .u32 0) (m3 := .int .u64 0) (m4 := .int .u32 0) (m5 := .int .u32 0) (m6 := .int .u64 0) (m7 := .int .i64 0) (m8 := .int .i64 0) (m9 := .bool false) (m10 := .int .i64 0) (m11 := .slice false true 0 []) (m12 := .slice false true 0 []) (m13 := .bool false) (m14 := .slice false true 0 []) (m15 := .slice false true 0 []) (m16 := .slice false true 0 [])  hb hp hc
theorem imm_3 (hb : b.length < 2 ^ 61) (hp : p ≤ b.length) (hc : c < List.length H) : runK c (C u1z [.ptr c 0]) (St H c (.cells [BS z b, .int .i64 p, .int .i64 (op : Nat), .int .u32 0, .int .u32 0, .int .u64 0, .int .u32 0, .int .u32 0, .int .u64 0, .int .i64 0, .int .i64 0, .bool false, .int .i64 0, .slice false true 0 [], .slice false true 0 [], .bool false, .slice false true 0 [], .slice false true 0 [], .slice false true 0 [], .int .i64 bad, .int .i64 why]) L) = some (.ok (.tup []) (St H c (rdBox z b (imm 3 op b ⟨p, bad, why⟩)) L)) :=
  itryS (c := c) (H := H) (L := L) (b := b) (z := z) (p := p) (bad := bad) (why := why) (m0 := .int .i64 (op : Nat)) (m1 := .int .u32 0) (m2 := .int .u32 0) (m3 := .int .u64 0) (m4 := .int .u32 0) (m5 := .int .u32 0) (m6 := .int .u64 0) (m7 := .int .i64 0) (m8 := .int .i64 0) (m9 := .bool false) (m10 := .int .i64 0) (m11 := .slice false true 0 []) (m12 := .slice false true 0 []) (m13 := .bool false) (m14 := .slice false true 0 []) (m15 := .slice false true 0 []) (l := []) (by decide) hb hp hc
theorem imm_4 (hb : b.length < 2 ^ 61) (hp : p ≤ b.length) (hc : c < List.length H) : runK c (C u2w [.ptr c 0]) (St H c (.cells [BS z b, .int .i64 p, .int .i64 (op : Nat), .int .u32 0, .int .u32 0, .int .u64 0, .int .u32 0, .int .u32 0, .int .u64 0, .int .i64 0, .int .i64 0, .bool false, .int .i64 0, .slice false true 0 [], .slice false true 0 [], .bool false, .slice false true 0 [], .slice false true 0 [], .slice false true 0 [], .int .i64 bad, .int .i64 why]) L) = some (.ok (.tup []) (St H c (rdBox z b (imm 4 op b ⟨p, bad, why⟩)) L)) :=
  ixS (c := c) (H := H) (L := L) (b := b) (z := z) (p := p) (bad := bad) (why := why) (m0 := .int .i64 (op : Nat)) (m1 := .int .u32 0) (m2 := .int .u32 0) (m3 := .int .u64 0) (m4 := .int .u32 0) (m5 := .int .u32 0) (m6 := .int .u64 0) (m7 := .int .i64 0) (m8 := .int .i64 0) (m9 := .bool false) (m10 := .int .i64 0) (m11 := .slice false true 0 []) (m12 := .slice false true 0 []) (m13 := .bool false) (m14 := .slice false true 0 []) (m15 := .slice false true 0 []) (m16 := .slice false true 0 [])  hb hp hc
theorem imm_5 (hb : b.length < 2 ^ 61) (hp : p ≤ b.length) (hc : c < List.length H) : runK c (C u4f [.ptr c 0]) (St H c (.cells [BS z b, .int .i64 p, .int .i64 (op : Nat), .int .u32 0, .int .u32 0, .int .u64 0, .int .u32 0, .int .u32 0, .int .u64 0, .int .i64 0, .int .i64 0, .bool false, .int .i64 0, .slice false true 0 [], .slice false true 0 [], .bool false, .slice false true 0 [], .slice false true 0 [], .slice false true 0 [], .int .i64 bad, .int .i64 why]) L) = some (.ok (.tup []) (St H c (rdBox z b (imm 5 op b ⟨p, bad, why⟩)) L)) :=
  ixyS (c := c) (H := H) (L := L) (b := b) (z := z) (p := p) (bad := bad) (why := why) (m0 := .int .i64 (op : Nat)) (m1 := .int .u32 0) (m2 := .int .u32 0) (m3 := .int .u64 0) (m4 := .int .u32 0) (m5 := .int .u32 0) (m6 := .int .u64 0) (m7 := .int .i64 0) (m8 := .int .i64 0) (m9 := .bool false) (m10 := .int .i64 0) (m11 := .slice false true 0 []) (m12 := .slice false true 0 []) (m13 := .bool false) (m14 := .slice false true 0 []) (m15 := .slice false true 0 []) (m16 := .slice false true 0 [])  hb hp hc
theorem imm_6 (hb : b.length < 2 ^ 61) (hp : p ≤ b.length) (hc : c < List.length H) : runK c (C u23 [.ptr c 0]) (St H c (.cells [BS z b, .int .i64 p, .int .i64 (op : Nat), .int .u32 0, .int .u32 0, .int .u64 0, .int .u32 0, .int .u32 0, .int .u64 0, .int .i64 0, .int .i64 0, .bool false, .int .i64 0, .slice false true 0 [], .slice false true 0 [], .bool false, .slice false true 0 [], .slice false true 0 [], .slice false true 0 [], .int .i64 bad, .int .i64 why]) L) = some (.ok (.tup []) (St H c (rdBox z b (imm 6 op b ⟨p, bad, why⟩)) L)) :=
  uzm (c := c) (H := H) (L := L) (b := b) (z := z) (p := p) (bad := bad) (why := why) (m0 := .int .i64 (op : Nat)) (m1 := .int .u32 0) (m2 := .int .u32 0) (m3 := .int .u64 0) (m4 := .int .u32 0) (m5 := .int .u32 0) (m6 := .int .u64 0) (m7 := .int .i64 0) (m8 := .int .i64 0) (m9 := .bool false) (m10 := .int .i64 0) (m11 := .slice false true 0 []) (m12 := .slice false true 0 []) (m13 := .bool false) (m15 := .slice false true 0 []) (m16 := .slice false true 0 []) (la := []) (by decide) hb hp hc
theorem imm_7 (hb : b.length < 2 ^ 61) (hp : p ≤ b.length) (hc : c < List.length H) : runK c (C u1r [.ptr c 0]) (St H c (.cells [BS z b, .int .i64 p, .int .i64 (op : Nat), .int .u32 0, .int .u32 0, .int .u64 0, .int .u32 0, .int .u32 0, .int .u64 0, .int .i64 0, .int .i64 0, .bool false, .int .i64 0, .slice false true 0 [], .slice false true 0 [], .bool false, .slice false true 0 [], .slice false true 0 [], .slice false true 0 [], .int .i64 bad, .int .i64 why]) L) = some (.ok (.tup []) (St H c (rdBox z b (imm 7 op b ⟨p, bad, why⟩)) L)) :=
  uyl (c := c) (H := H) (L := L) (b := b) (z := z) (p := p) (bad := bad) (why := why) (m0 := .int .i64 (op : Nat)) (m1 := .int .u32 0) (m2 := .int .u32 0) (m3 := .int .u64 0) (m4 := .int .u32 0) (m5 := .int .u32 0) (m6 := .int .u64 0) (m7 := .int .i64 0) (m8 := .int .i64 0) (m9 := .bool false) (m10 := .int .i64 0) (m11 := .slice false true 0 []) (m12 := .slice false true 0 []) (m13 := .bool false) (m14 := .slice false true 0 []) (m16 := .slice false true 0 []) (l := []) (by decide) hb hp hc
theorem imm_8 (hb : b.length < 2 ^ 61) (hp : p ≤ b.length) (hc : c < List.length H) : runK c (C u2q [.ptr c 0]) (St H c (.cells [BS z b, .int .i64 p, .int .i64 (op : Nat), .int .u32 0, .int .u32 0, .int .u64 0, .int .u32 0, .int .u32 0, .int .u64 0, .int .i64 0, .int .i64 0, .bool false, .int .i64 0, .slice false true 0 [], .slice false true 0 [], .bool false, .slice false true 0 [], .slice false true 0 [], .slice false true 0 [], .int .i64 bad, .int .i64 why]) L) = some (.ok (.tup []) (St H c (rdBox z b (imm 8 op b ⟨p, bad, why⟩)) L)) :=
  imemS (c := c) (H := H) (L := L) (b := b) (z := z) (p := p) (bad := bad) (why := why) (m0 := .int .i64 (op : Nat)) (m1 := .int .u32 0) (m2 := .int .u32 0) (m3 := .int .u64 0) (m4 := .int .u32 0) (m5 := .int .u32 0) (m6 := .int .u64 0) (m7 := .int .i64 0) (m8 := .int .i64 0) (m9 := .bool false) (m10 := .int .i64 0) (m11 := .slice false true 0 []) (m12 := .slice false true 0 []) (m13 := .bool false) (m14 := .slice false true 0 []) (m15 := .slice false true 0 []) (m16 := .slice false true 0 [])  hb hp hc
theorem imm_9 (hb : b.length < 2 ^ 61) (hp : p ≤ b.length) (hc : c < List.length H) : runK c (C u3x [.ptr c 0]) (St H c (.cells [BS z b, .int .i64 p, .int .i64 (op : Nat), .int .u32 0, .int .u32 0, .int .u64 0, .int .u32 0, .int .u32 0, .int .u64 0, .int .i64 0, .int .i64 0, .bool false, .int .i64 0, .slice false true 0 [], .slice false true 0 [], .bool false, .slice false true 0 [], .slice false true 0 [], .slice false true 0 [], .int .i64 bad, .int .i64 why]) L) = some (.ok (.tup []) (St H c (rdBox z b (imm 9 op b ⟨p, bad, why⟩)) L)) :=
  ii32S (c := c) (H := H) (L := L) (b := b) (z := z) (p := p) (bad := bad) (why := why) (m0 := .int .i64 (op : Nat)) (m1 := .int .u32 0) (m2 := .int .u32 0) (m3 := .int .u64 0) (m4 := .int .u32 0) (m5 := .int .u32 0) (m6 := .int .u64 0) (m7 := .int .i64 0) (m8 := .int .i64 0) (m9 := .bool false) (m10 := .int .i64 0) (m11 := .slice false true 0 []) (m12 := .slice false true 0 []) (m13 := .bool false) (m14 := .slice false true 0 []) (m15 := .slice false true 0 []) (m16 := .slice false true 0 [])  hb hp hc
theorem imm_10 (hb : b.length < 2 ^ 61) (hp : p ≤ b.length) (hc : c < List.length H) : runK c (C u3t [.ptr c 0]) (St H c (.cells [BS z b, .int .i64 p, .int .i64 (op : Nat), .int .u32 0, .int .u32 0, .int .u64 0, .int .u32 0, .int .u32 0, .int .u64 0, .int .i64 0, .int .i64 0, .bool false, .int .i64 0, .slice false true 0 [], .slice false true 0 [], .bool false, .slice false true 0 [], .slice false true 0 [], .slice false true 0 [], .int .i64 bad, .int .i64 why]) L) = some (.ok (.tup []) (St H c (rdBox z b (imm 10 op b ⟨p, bad, why⟩)) L)) :=
  ii64S (c := c) (H := H) (L := L) (b := b) (z := z) (p := p) (bad := bad) (why := why) (m0 := .int .i64 (op : Nat)) (m1 := .int .u32 0) (m2 := .int .u32 0) (m3 := .int .u64 0) (m4 := .int .u32 0) (m5 := .int .u32 0) (m6 := .int .u64 0) (m7 := .int .i64 0) (m8 := .int .i64 0) (m9 := .bool false) (m10 := .int .i64 0) (m11 := .slice false true 0 []) (m12 := .slice false true 0 []) (m13 := .bool false) (m14 := .slice false true 0 []) (m15 := .slice false true 0 []) (m16 := .slice false true 0 [])  hb hp hc
theorem imm_11 (hb : b.length < 2 ^ 61) (hp : p ≤ b.length) (hc : c < List.length H) : runK c (C u3u [.ptr c 0]) (St H c (.cells [BS z b, .int .i64 p, .int .i64 (op : Nat), .int .u32 0, .int .u32 0, .int .u64 0, .int .u32 0, .int .u32 0, .int .u64 0, .int .i64 0, .int .i64 0, .bool false, .int .i64 0, .slice false true 0 [], .slice false true 0 [], .bool false, .slice false true 0 [], .slice false true 0 [], .slice false true 0 [], .int .i64 bad, .int .i64 why]) L) = some (.ok (.tup []) (St H c (rdBox z b (imm 11 op b ⟨p, bad, why⟩)) L)) :=
  if32S (c := c) (H := H) (L := L) (b := b) (z := z) (p := p) (bad := bad) (why := why) (m0 := .int .i64 (op : Nat)) (m1 := .int .u32 0) (m2 := .int .u32 0) (m3 := .int .u64 0) (m4 := .int .u32 0) (m5 := .int .u32 0) (m6 := .int .u64 0) (m7 := .int .i64 0) (m8 := .int .i64 0) (m9 := .bool false) (m10 := .int .i64 0) (m11 := .slice false true 0 []) (m12 := .slice false true 0 []) (m13 := .bool false) (m14 := .slice false true 0 []) (m15 := .slice false true 0 []) (m16 := .slice false true 0 [])  hb hp hc
theorem imm_12 (hb : b.length < 2 ^ 61) (hp : p ≤ b.length) (hc : c < List.length H) : runK c (C u3n [.ptr c 0]) (St H c (.cells [BS z b, .int .i64 p, .int .i64 (op : Nat), .int .u32 0, .int .u32 0, .int .u64 0, .int .u32 0, .int .u32 0, .int .u64 0, .int .i64 0, .int .i64 0, .bool false, .int .i64 0, .slice false true 0 [], .slice false true 0 [], .bool false, .slice false true 0 [], .slice false true 0 [], .slice false true 0 [], .int .i64 bad, .int .i64 why]) L) = some (.ok (.tup []) (St H c (rdBox z b (imm 12 op b ⟨p, bad, why⟩)) L)) :=
  if64S (c := c) (H := H) (L := L) (b := b) (z := z) (p := p) (bad := bad) (why := why) (m0 := .int .i64 (op : Nat)) (m1 := .int .u32 0) (m2 := .int .u32 0) (m3 := .int .u64 0) (m4 := .int .u32 0) (m5 := .int .u32 0) (m6 := .int .u64 0) (m7 := .int .i64 0) (m8 := .int .i64 0) (m9 := .bool false) (m10 := .int .i64 0) (m11 := .slice false true 0 []) (m12 := .slice false true 0 []) (m13 := .bool false) (m14 := .slice false true 0 []) (m15 := .slice false true 0 []) (m16 := .slice false true 0 [])  hb hp hc
theorem imm_13 (hb : b.length < 2 ^ 61) (hp : p ≤ b.length) (hc : c < List.length H) : runK c (C u35 [.ptr c 0]) (St H c (.cells [BS z b, .int .i64 p, .int .i64 (op : Nat), .int .u32 0, .int .u32 0, .int .u64 0, .int .u32 0, .int .u32 0, .int .u64 0, .int .i64 0, .int .i64 0, .bool false, .int .i64 0, .slice false true 0 [], .slice false true 0 [], .bool false, .slice false true 0 [], .slice false true 0 [], .slice false true 0 [], .int .i64 bad, .int .i64 why]) L) = some (.ok (.tup []) (St H c (rdBox z b (imm 13 op b ⟨p, bad, why⟩)) L)) :=
  iheapS (c := c) (H := H) (L := L) (b := b) (z := z) (p := p) (bad := bad) (why := why) (m0 := .int .i64 (op : Nat)) (m1 := .int .u32 0) (m2 := .int .u32 0) (m3 := .int .u64 0) (m4 := .int .u32 0) (m5 := .int .u32 0) (m6 := .int .u64 0) (m7 := .int .i64 0) (m8 := .int .i64 0) (m9 := .bool false) (m10 := .int .i64 0) (m11 := .slice false true 0 []) (m12 := .slice false true 0 []) (m13 := .bool false) (m14 := .slice false true 0 []) (m16 := .slice false true 0 []) (l := []) (by decide) hb hp hc
theorem imm_14 (hb : b.length < 2 ^ 61) (hp : p ≤ b.length) (hc : c < List.length H) : runK c (C u38 [.ptr c 0]) (St H c (.cells [BS z b, .int .i64 p, .int .i64 (op : Nat), .int .u32 0, .int .u32 0, .int .u64 0, .int .u32 0, .int .u32 0, .int .u64 0, .int .i64 0, .int .i64 0, .bool false, .int .i64 0, .slice false true 0 [], .slice false true 0 [], .bool false, .slice false true 0 [], .slice false true 0 [], .slice false true 0 [], .int .i64 bad, .int .i64 why]) L) = some (.ok (.tup []) (St H c (rdBox z b (imm 14 op b ⟨p, bad, why⟩)) L)) :=
  icastS (c := c) (H := H) (L := L) (b := b) (z := z) (p := p) (bad := bad) (why := why) (m1 := .int .u32 0) (m2 := .int .u32 0) (m3 := .int .u64 0) (m4 := .int .u32 0) (m5 := .int .u32 0) (m6 := .int .u64 0) (m7 := .int .i64 0) (m8 := .int .i64 0) (m9 := .bool false) (m10 := .int .i64 0) (m11 := .slice false true 0 []) (m12 := .slice false true 0 []) (m13 := .bool false) (m14 := .slice false true 0 []) (m16 := .slice false true 0 []) (op := (op : Int)) (l := []) (by decide) hb hp hc
theorem imm_15 (hb : b.length < 2 ^ 61) (hp : p ≤ b.length) (hc : c < List.length H) : runK c (C u2k [.ptr c 0]) (St H c (.cells [BS z b, .int .i64 p, .int .i64 (op : Nat), .int .u32 0, .int .u32 0, .int .u64 0, .int .u32 0, .int .u32 0, .int .u64 0, .int .i64 0, .int .i64 0, .bool false, .int .i64 0, .slice false true 0 [], .slice false true 0 [], .bool false, .slice false true 0 [], .slice false true 0 [], .slice false true 0 [], .int .i64 bad, .int .i64 why]) L) = some (.ok (.tup []) (St H c (rdBox z b (imm 15 op b ⟨p, bad, why⟩)) L)) :=
  uwj (c := c) (H := H) (L := L) (b := b) (z := z) (p := p) (bad := bad) (why := why) (m0 := .int .i64 (op : Nat)) (m1 := .int .u32 0) (m2 := .int .u32 0) (m3 := .int .u64 0) (m4 := .int .u32 0) (m5 := .int .u32 0) (m6 := .int .u64 0) (m7 := .int .i64 0) (m8 := .int .i64 0) (m9 := .bool false) (m10 := .int .i64 0) (m11 := .slice false true 0 []) (m12 := .slice false true 0 []) (m13 := .bool false) (m14 := .slice false true 0 []) (m16 := .slice false true 0 []) (l := []) (by decide) hb hp hc
theorem imm_16 (hb : b.length < 2 ^ 61) (hp : p ≤ b.length) (hc : c < List.length H) : runK c (C u44 [.ptr c 0]) (St H c (.cells [BS z b, .int .i64 p, .int .i64 (op : Nat), .int .u32 0, .int .u32 0, .int .u64 0, .int .u32 0, .int .u32 0, .int .u64 0, .int .i64 0, .int .i64 0, .bool false, .int .i64 0, .slice false true 0 [], .slice false true 0 [], .bool false, .slice false true 0 [], .slice false true 0 [], .slice false true 0 [], .int .i64 bad, .int .i64 why]) L) = some (.ok (.tup []) (St H c (rdBox z b (imm 16 op b ⟨p, bad, why⟩)) L)) :=
  ixnS (c := c) (H := H) (L := L) (b := b) (z := z) (p := p) (bad := bad) (why := why) (m0 := .int .i64 (op : Nat)) (m1 := .int .u32 0) (m2 := .int .u32 0) (m3 := .int .u64 0) (m4 := .int .u32 0) (m5 := .int .u32 0) (m6 := .int .u64 0) (m7 := .int .i64 0) (m8 := .int .i64 0) (m9 := .bool false) (m10 := .int .i64 0) (m11 := .slice false true 0 []) (m12 := .slice false true 0 []) (m13 := .bool false) (m14 := .slice false true 0 []) (m15 := .slice false true 0 []) (m16 := .slice false true 0 [])  hb hp hc
theorem imm_0 (hc : c < List.length H) : runK c (C u11 [.ptr c 0]) (St H c (.cells [BS z b, .int .i64 p, .int .i64 (op : Nat), .int .u32 0, .int .u32 0, .int .u64 0, .int .u32 0, .int .u32 0, .int .u64 0, .int .i64 0, .int .i64 0, .bool false, .int .i64 0, .slice false true 0 [], .slice false true 0 [], .bool false, .slice false true 0 [], .slice false true 0 [], .slice false true 0 [], .int .i64 bad, .int .i64 why]) L) = some (.ok (.tup []) (St H c (rdBox z b (imm 0 op b ⟨p, bad, why⟩)) L)) := liftT (fun H hc => by
  rw [u56]
  simp +contextual -dsimp (disch := omega) only [↓kDown, kUp, ↓goDown, goUp, cr, simprocAttr] <;> rfl) hc
theorem imm_1 (hc : c < List.length H) : runK c (C u11 [.ptr c 0]) (St H c (.cells [BS z b, .int .i64 p, .int .i64 (op : Nat), .int .u32 0, .int .u32 0, .int .u64 0, .int .u32 0, .int .u32 0, .int .u64 0, .int .i64 0, .int .i64 0, .bool false, .int .i64 0, .slice false true 0 [], .slice false true 0 [], .bool false, .slice false true 0 [], .slice false true 0 [], .slice false true 0 [], .int .i64 bad, .int .i64 why]) L) = some (.ok (.tup []) (St H c (rdBox z b (imm 1 op b ⟨p, bad, why⟩)) L)) := liftT (fun H hc => by
  rw [u56]
  simp +contextual -dsimp (disch := omega) only [↓kDown, kUp, ↓goDown, goUp, cr, simprocAttr] <;> rfl) hc
end Go.Proofs.YthidcpkcfoldmaaGreat.Pi.Q
namespace Go.Proofs.YthidcpkcfoldmaaGreat.Pi.Q
open Go Go.Proofs.YthidcpkcfoldmaaGreat.Pi
attribute [local congr] ite_congr
variable {c : Nat} {H : Heap} {L : List Box} {b : List UInt8} {z : Bool} {at_ : Nat}
def zeroI : List PV := [.int .i64 0, .int .u32 0, .int .u32 0, .int .u64 0, .int .u32 0, .int .u32 0, .int .u64 0, .int .i64 0, .int .i64 0, .bool false, .int .i64 0, .slice false true 0 [], .slice false true 0 [], .bool false, .slice false true 0 [], .slice false true 0 [], .slice false true 0 []]
def resI (r : List PV × TS) : PV := if r.2.why = 0 then .tup [.agg (r.1.map stripC), .int .i64 r.2.p, .int .i64 0] else .tup [.agg zeroI, .int .i64 r.2.bad, .int .i64 r.2.why]
def uen : List PV := [.fn u11 [] [], .fn u11 [] [], .fn u21 [] [], .fn u1z [] [], .fn u2w [] [], .fn u4f [] [], .fn u23 [] [], .fn u1r [] [], .fn u2q [] [], .fn u3x [] [], .fn u3t [] [], .fn u3u [] [], .fn u3n [] [], .fn u35 [] [], .fn u38 [] [], .fn u2k [] [], .fn u44 [] []]
theorem uhk : run (C u7k []) H = some (.ok (.agg uen) H) := by
  rw [ue2]
  unfold uen
  simp +contextual -dsimp (disch := omega) only [↓goDown, goUp, cr, simprocAttr]
theorem utv {sz : Nat} {l : List PV} : isCell (stripC (accP sz l)) = true := by cases l <;> rfl
theorem uy0 {sz : Nat} {l : List PV} : (stripC (accP sz l)).cells = [stripC (accP sz l)] := by cases l <;> rfl
theorem low_sa {sz n : Nat} {l : List PV} : (stripC (accP sz l)).low n = true := by cases l <;> simp [accP, stripC, u6n]
theorem uk1 {sz : Nat} {l : List PV} : stripC (stripC (accP sz l)) = stripC (accP sz l) := by cases l <;> rfl
theorem St_2' {x y : Box} : hadd H [x, y] = St (hadd H [x, .dead]) (List.length H + 1) y [] := by
  unfold St hadd hset
  rw [List.append_nil, List.set_append_right _ _ (by omega)]
  simp
theorem use_2' {m : M PV} {x y w : Box} {v : PV} (h : runK (List.length H + 1) m (St (hadd H [x, .dead]) (List.length H + 1) y []) = some (.ok v (St (hadd H [x, .dead]) (List.length H + 1) w []))) : run m (hadd H [x, y]) = some (.ok v (hadd H [x, w])) := by
  rw [← St_2', ← St_2'] at h
  exact uny h
theorem new2' {x y : Box} : List.length H + 1 < List.length (hadd H [x, y]) := by rw [u39]; simp
def goodR (v : PV) : Prop := (isCell v = true ∧ v.cells = [v] ∧ (∀ n, v.low n = true)) ∧ isCell (stripC v) = true ∧ (stripC v).cells = [stripC v] ∧ (∀ n, (stripC v).low n = true) ∧ stripC (stripC v) = stripC v
theorem uge {k : IntKind} {n : Int} : goodR (.int k n) := ⟨⟨rfl, rfl, fun n => u8o⟩, rfl, rfl, fun n => u8o, rfl⟩
theorem usf {x : Bool} : goodR (.bool x) := ⟨⟨rfl, rfl, fun n => uc6⟩, rfl, rfl, fun n => uc6, rfl⟩
theorem uw6 : goodR (.slice false true 0 []) := ⟨⟨rfl, rfl, fun n => u6n⟩, rfl, rfl, fun n => u6n, rfl⟩
theorem uvy {sz : Nat} {l : List PV} : goodR (accP sz l) := ⟨⟨u61, u6x, fun n => low_Pa⟩, utv, uy0, fun n => low_sa, uk1⟩
theorem utr {n : Nat} {l : List Nat} {t : TS} : goodR (tabM b n l t (.int .u32 0)) := by unfold tabM; split <;> exact uge
theorem uv2 {t : TS} : goodR (memM b t (.int .u32 0)) := by unfold memM; split <;> exact uge
theorem uwt {k op : Nat} {t : TS} : ∀ v ∈ (imm k op b t).1, goodR v := by
  intro v hv
  unfold imm at hv
  split at hv <;>
  · simp only [List.mem_cons, List.not_mem_nil, or_false] at hv
    rcases hv with h | h | h | h | h | h | h | h | h | h | h | h | h | h | h | h | h <;> rw [h] <;> first | exact uge | exact usf | exact uw6 | exact uvy | exact utr | exact uv2
theorem uzx {k op : Nat} {t : TS} : ∃ m0 m1 m2 m3 m4 m5 m6 m7 m8 m9 m10 m11 m12 m13 m14 m15 m16, (imm k op b t).1 = [m0, m1, m2, m3, m4, m5, m6, m7, m8, m9, m10, m11, m12, m13, m14, m15, m16] := by
  unfold imm
  split <;> exact ⟨_, _, _, _, _, _, _, _, _, _, _, _, _, _, _, _, _, rfl⟩
theorem u2g {k : Nat} {f : FuncId} (hb : b.length < 2 ^ 61) (hp : at_ ≤ b.length) (hs : (smT b 255 ⟨at_, 0, 0⟩).2.why = 0) (hk : formN ((opcT b (⟨at_, 0, 0⟩ : TS)).1 : Nat) = k) (h17 : k < 17)
    (hf : ∀ K, ldFR K (nth uen k) = some (.ok (.fn f [] []) K))
    (hi : ∀ (c : Nat) (H : Heap) (L : List Box) (p bad why op : Nat), p ≤ b.length → c < List.length H → runK c (C f [.ptr c 0]) (St H c (.cells [BS z b, .int .i64 p, .int .i64 (op : Nat), .int .u32 0, .int .u32 0, .int .u64 0, .int .u32 0, .int .u32 0, .int .u64 0, .int .i64 0, .int .i64 0, .bool false, .int .i64 0, .slice false true 0 [], .slice false true 0 [], .bool false, .slice false true 0 [], .slice false true 0 [], .slice false true 0 [], .int .i64 bad, .int .i64 why]) L) = some (.ok (.tup []) (St H c (rdBox z b (imm k op b ⟨p, bad, why⟩)) L))) :
    run (C u6y [BS z b, .int .i64 at_]) H = some (.ok (resI (imm k (opcT b (⟨at_, 0, 0⟩ : TS)).1 b (opcT b (⟨at_, 0, 0⟩ : TS)).2)) H) := by
  have c1 : (((at_ : Nat) : Int) < 0) = False := eq_false (by omega)
  have c2 : ((b.length : Int) < (at_ : Int)) = False := eq_false (by omega)
  have ho := use_2' (iopcS (c := List.length H + 1) (H := hadd H [.cells zeroI, .dead]) (L := []) (b := b) (z := z) (p := at_) (bad := 0) (why := 0) (m0 := .int .i64 0) (m1 := .int .u32 0) (m2 := .int .u32 0) (m3 := .int .u64 0) (m4 := .int .u32 0) (m5 := .int .u32 0) (m6 := .int .u64 0) (m7 := .int .i64 0) (m8 := .int .i64 0) (m9 := .bool false) (m10 := .int .i64 0) (m11 := .slice false true 0 []) (m12 := .slice false true 0 []) (m13 := .bool false) (m14 := .slice false true 0 []) (m15 := .slice false true 0 []) (m16 := .slice false true 0 []) hs hb hp new2')
  rw [hk] at ho
  simp only [show ((0 : Nat) : Int) = 0 from rfl] at ho
  have hn1 : (List.length H + 1 == List.length H) = false := beq_false_of_ne (by omega)
  have hn2 : (List.length H == List.length H + 1) = false := beq_false_of_ne (by omega)
  have ck : (0 ≤ (k : Int) ∧ (k : Int) < 17) = True := eq_true (by omega)
  have h1 : (opcT b (⟨at_, 0, 0⟩ : TS)).2.p ≤ b.length := v007 hp
  have hm := use_2' (hi (List.length H + 1) (hadd H [.cells zeroI, .dead]) [] (opcT b (⟨at_, 0, 0⟩ : TS)).2.p (opcT b (⟨at_, 0, 0⟩ : TS)).2.bad (opcT b (⟨at_, 0, 0⟩ : TS)).2.why (opcT b (⟨at_, 0, 0⟩ : TS)).1 h1 new2')
  simp only [TS.eta] at hm
  have hg := uwt (b := b) (k := k) (op := (opcT b (⟨at_, 0, 0⟩ : TS)).1) (t := (opcT b (⟨at_, 0, 0⟩ : TS)).2)
  obtain ⟨m0, m1, m2, m3, m4, m5, m6, m7, m8, m9, m10, m11, m12, m13, m14, m15, m16, hcs⟩ := uzx (b := b) (k := k) (op := (opcT b (⟨at_, 0, 0⟩ : TS)).1) (t := (opcT b (⟨at_, 0, 0⟩ : TS)).2)
  generalize hr : imm k (opcT b (⟨at_, 0, 0⟩ : TS)).1 b (opcT b (⟨at_, 0, 0⟩ : TS)).2 = r at hm hg hcs ⊢
  generalize (opcT b (⟨at_, 0, 0⟩ : TS)) = o at ho hm h1 hk
  obtain ⟨cl, q⟩ := r
  simp only at hcs
  subst hcs
  have g0 := hg m0 (by simp)
  have g1 := hg m1 (by simp)
  have g2 := hg m2 (by simp)
  have g3 := hg m3 (by simp)
  have g4 := hg m4 (by simp)
  have g5 := hg m5 (by simp)
  have g6 := hg m6 (by simp)
  have g7 := hg m7 (by simp)
  have g8 := hg m8 (by simp)
  have g9 := hg m9 (by simp)
  have g10 := hg m10 (by simp)
  have g11 := hg m11 (by simp)
  have g12 := hg m12 (by simp)
  have g13 := hg m13 (by simp)
  have g14 := hg m14 (by simp)
  have g15 := hg m15 (by simp)
  have g16 := hg m16 (by simp)
  have hr := fun K => uhk (H := K)
  unfold zeroI at ho hm
  unfold resI zeroI
  unfold rdBox at hm
  simp only [List.cons_append, List.nil_append] at hm ⊢
  clear hg hi
  rw [uca]
  by_cases hw : q.why = 0
  · have hw' : (((q.why : Nat) : Int) = 0) = True := eq_true (by omega)
    rw [if_pos hw]
    simp +contextual -dsimp (disch := omega) only [↓goDown, goUp, cr, simprocAttr, List.length_map, c1, c2, hr, ho, ugi, ck, Int.toNat_natCast, hf, hn1, hn2, u2f, hm, hw', g0.1.1, g0.1.2.1, g0.1.2.2, g0.2.1, g0.2.2.1, g0.2.2.2.1, g0.2.2.2.2, g1.1.1, g1.1.2.1, g1.1.2.2, g1.2.1, g1.2.2.1, g1.2.2.2.1, g1.2.2.2.2, g2.1.1, g2.1.2.1, g2.1.2.2, g2.2.1, g2.2.2.1, g2.2.2.2.1, g2.2.2.2.2, g3.1.1, g3.1.2.1, g3.1.2.2, g3.2.1, g3.2.2.1, g3.2.2.2.1, g3.2.2.2.2, g4.1.1, g4.1.2.1, g4.1.2.2, g4.2.1, g4.2.2.1, g4.2.2.2.1, g4.2.2.2.2, g5.1.1, g5.1.2.1, g5.1.2.2, g5.2.1, g5.2.2.1, g5.2.2.2.1, g5.2.2.2.2, g6.1.1, g6.1.2.1, g6.1.2.2, g6.2.1, g6.2.2.1, g6.2.2.2.1, g6.2.2.2.2, g7.1.1, g7.1.2.1, g7.1.2.2, g7.2.1, g7.2.2.1, g7.2.2.2.1, g7.2.2.2.2, g8.1.1, g8.1.2.1, g8.1.2.2, g8.2.1, g8.2.2.1, g8.2.2.2.1, g8.2.2.2.2, g9.1.1, g9.1.2.1, g9.1.2.2, g9.2.1, g9.2.2.1, g9.2.2.2.1, g9.2.2.2.2, g10.1.1, g10.1.2.1, g10.1.2.2, g10.2.1, g10.2.2.1, g10.2.2.2.1, g10.2.2.2.2, g11.1.1, g11.1.2.1, g11.1.2.2, g11.2.1, g11.2.2.1, g11.2.2.2.1, g11.2.2.2.2, g12.1.1, g12.1.2.1, g12.1.2.2, g12.2.1, g12.2.2.1, g12.2.2.2.1, g12.2.2.2.2, g13.1.1, g13.1.2.1, g13.1.2.2, g13.2.1, g13.2.2.1, g13.2.2.2.1, g13.2.2.2.2, g14.1.1, g14.1.2.1, g14.1.2.2, g14.2.1, g14.2.2.1, g14.2.2.2.1, g14.2.2.2.2, g15.1.1, g15.1.2.1, g15.1.2.2, g15.2.1, g15.2.2.1, g15.2.2.2.1, g15.2.2.2.2, g16.1.1, g16.1.2.1, g16.1.2.2, g16.2.1, g16.2.2.1, g16.2.2.2.1, g16.2.2.2.2]
  · have hw' : (((q.why : Nat) : Int) = 0) = False := eq_false (by omega)
    rw [if_neg hw]
    simp +contextual -dsimp (disch := omega) only [↓goDown, goUp, cr, simprocAttr, List.length_map, c1, c2, hr, ho, ugi, ck, Int.toNat_natCast, hf, hn1, hn2, u2f, hm, hw', g0.1.1, g0.1.2.1, g0.1.2.2, g0.2.1, g0.2.2.1, g0.2.2.2.1, g0.2.2.2.2, g1.1.1, g1.1.2.1, g1.1.2.2, g1.2.1, g1.2.2.1, g1.2.2.2.1, g1.2.2.2.2, g2.1.1, g2.1.2.1, g2.1.2.2, g2.2.1, g2.2.2.1, g2.2.2.2.1, g2.2.2.2.2, g3.1.1, g3.1.2.1, g3.1.2.2, g3.2.1, g3.2.2.1, g3.2.2.2.1, g3.2.2.2.2, g4.1.1, g4.1.2.1, g4.1.2.2, g4.2.1, g4.2.2.1, g4.2.2.2.1, g4.2.2.2.2, g5.1.1, g5.1.2.1, g5.1.2.2, g5.2.1, g5.2.2.1, g5.2.2.2.1, g5.2.2.2.2, g6.1.1, g6.1.2.1, g6.1.2.2, g6.2.1, g6.2.2.1, g6.2.2.2.1, g6.2.2.2.2, g7.1.1, g7.1.2.1, g7.1.2.2, g7.2.1, g7.2.2.1, g7.2.2.2.1, g7.2.2.2.2, g8.1.1, g8.1.2.1, g8.1.2.2, g8.2.1, g8.2.2.1, g8.2.2.2.1, g8.2.2.2.2, g9.1.1, g9.1.2.1, g9.1.2.2, g9.2.1, g9.2.2.1, g9.2.2.2.1, g9.2.2.2.2, g10.1.1, g10.1.2.1, g10.1.2.2, g10.2.1, g10.2.2.1, g10.2.2.2.1, g10.2.2.2.2, g11.1.1, g11.1.2.1, g11.1.2.2, g11.2.1, g11.2.2.1, g11.2.2.2.1, g11.2.2.2.2, g12.1.1, g12.1.2.1, g12.1.2.2, g12.2.1, g12.2.2.1, g12.2.2.2.1, g12.2.2.2.2, g13.1.1, g13.1.2.1, g13.1.2.2, g13.2.1, g13.2.2.1, g13.2.2.2.1, g13.2.2.2.2, g14.1.1, g14.1.2.1, g14.1.2.2, g14.2.1, g14.2.2.1, g14.2.2.2.1, g14.2.2.2.2, g15.1.1, g15.1.2.1, g15.1.2.2, g15.2.1, g15.2.2.1, g15.2.2.2.1, g15.2.2.2.2, g16.1.1, g16.1.2.1, g16.1.2.2, g16.2.1, g16.2.2.1, g16.2.2.2.1, g16.2.2.2.2]
end Go.Proofs.YthidcpkcfoldmaaGreat.Pi.Q
namespace Go.Proofs.YthidcpkcfoldmaaGreat.Pi.Q
open Go Go.Proofs.YthidcpkcfoldmaaGreat.Pi
attribute [local congr] ite_congr
variable {c : Nat} {H : Heap} {L : List Box} {b : List UInt8} {z : Bool} {at_ : Nat}
theorem usw {r : PV} {K : Heap} : run (C u11 [r]) K = some (.ok (.tup []) K) := by
  rw [u56]
  simp +contextual -dsimp (disch := omega) only [↓goDown, goUp, cr, simprocAttr]
theorem uxk (hb : b.length < 2 ^ 61) (hp : at_ ≤ b.length) (hs : (smT b 255 ⟨at_, 0, 0⟩).2.why ≠ 0) : run (C u6y [BS z b, .int .i64 at_]) H = some (.ok (resI (zeroI, (smT b 255 (⟨at_, 0, 0⟩ : TS)).2)) H) := by
  have c1 : (((at_ : Nat) : Int) < 0) = False := eq_false (by omega)
  have c2 : ((b.length : Int) < (at_ : Int)) = False := eq_false (by omega)
  have ho := use_2' (v00c (c := List.length H + 1) (H := hadd H [.cells zeroI, .dead]) (L := []) (b := b) (z := z) (p := at_) (bad := 0) (why := 0) (m0 := .int .i64 0) (m1 := .int .u32 0) (m2 := .int .u32 0) (m3 := .int .u64 0) (m4 := .int .u32 0) (m5 := .int .u32 0) (m6 := .int .u64 0) (m7 := .int .i64 0) (m8 := .int .i64 0) (m9 := .bool false) (m10 := .int .i64 0) (m11 := .slice false true 0 []) (m12 := .slice false true 0 []) (m13 := .bool false) (m14 := .slice false true 0 []) (m15 := .slice false true 0 []) (m16 := .slice false true 0 []) hs hb new2')
  simp only [show ((0 : Nat) : Int) = 0 from rfl] at ho
  have hn1 : (List.length H + 1 == List.length H) = false := beq_false_of_ne (by omega)
  have hn2 : (List.length H == List.length H + 1) = false := beq_false_of_ne (by omega)
  have h17 : ((17 : Nat) : Int) = 17 := rfl
  have hr := fun K => uhk (H := K)
  have hw' : ((((smT b 255 (⟨at_, 0, 0⟩ : TS)).2.why : Nat) : Int) = 0) = False := eq_false (by omega)
  unfold uen at hr
  unfold zeroI at ho
  unfold resI zeroI
  rw [if_neg hs]
  rw [uca]
  simp +contextual -dsimp (disch := omega) only [↓goDown, goUp, cr, simprocAttr, List.length_map, c1, c2, hr, ho, ugi, h17, hn1, hn2, u2f, usw, hw']
def readP (b : List UInt8) (a : Nat) : List PV × TS := if (smT b 255 ⟨a, 0, 0⟩).2.why = 0 then imm (formN ((opcT b ⟨a, 0, 0⟩).1 : Nat)) (opcT b ⟨a, 0, 0⟩).1 b (opcT b ⟨a, 0, 0⟩).2 else (zeroI, (smT b 255 ⟨a, 0, 0⟩).2)
theorem uwl (hb : b.length < 2 ^ 61) (hp : at_ ≤ b.length) : run (C u6y [BS z b, .int .i64 at_]) H = some (.ok (resI (readP b at_)) H) := by
  unfold readP
  by_cases hs : (smT b 255 ⟨at_, 0, 0⟩).2.why = 0
  · rw [if_pos hs]
    have hl := ucd ((opcT b (⟨at_, 0, 0⟩ : TS)).1 : Nat)
    generalize hk : formN ((opcT b (⟨at_, 0, 0⟩ : TS)).1 : Nat) = k at hl ⊢
    have h : k = 0 ∨ k = 1 ∨ k = 2 ∨ k = 3 ∨ k = 4 ∨ k = 5 ∨ k = 6 ∨ k = 7 ∨ k = 8 ∨ k = 9 ∨ k = 10 ∨ k = 11 ∨ k = 12 ∨ k = 13 ∨ k = 14 ∨ k = 15 ∨ k = 16 := by omega
    rcases h with rfl | rfl | rfl | rfl | rfl | rfl | rfl | rfl | rfl | rfl | rfl | rfl | rfl | rfl | rfl | rfl | rfl
    · exact u2g hb hp hs hk (by decide) (fun K => rfl) (fun c H L p bad why op hp hc => imm_0 hc)
    · exact u2g hb hp hs hk (by decide) (fun K => rfl) (fun c H L p bad why op hp hc => imm_1 hc)
    · exact u2g hb hp hs hk (by decide) (fun K => rfl) (fun c H L p bad why op hp hc => imm_2 hb hp hc)
    · exact u2g hb hp hs hk (by decide) (fun K => rfl) (fun c H L p bad why op hp hc => imm_3 hb hp hc)
    · exact u2g hb hp hs hk (by decide) (fun K => rfl) (fun c H L p bad why op hp hc => imm_4 hb hp hc)
    · exact u2g hb hp hs hk (by decide) (fun K => rfl) (fun c H L p bad why op hp hc => imm_5 hb hp hc)
    · exact u2g hb hp hs hk (by decide) (fun K => rfl) (fun c H L p bad why op hp hc => imm_6 hb hp hc)
    · exact u2g hb hp hs hk (by decide) (fun K => rfl) (fun c H L p bad why op hp hc => imm_7 hb hp hc)
    · exact u2g hb hp hs hk (by decide) (fun K => rfl) (fun c H L p bad why op hp hc => imm_8 hb hp hc)
    · exact u2g hb hp hs hk (by decide) (fun K => rfl) (fun c H L p bad why op hp hc => imm_9 hb hp hc)
    · exact u2g hb hp hs hk (by decide) (fun K => rfl) (fun c H L p bad why op hp hc => imm_10 hb hp hc)
    · exact u2g hb hp hs hk (by decide) (fun K => rfl) (fun c H L p bad why op hp hc => imm_11 hb hp hc)
    · exact u2g hb hp hs hk (by decide) (fun K => rfl) (fun c H L p bad why op hp hc => imm_12 hb hp hc)
    · exact u2g hb hp hs hk (by decide) (fun K => rfl) (fun c H L p bad why op hp hc => imm_13 hb hp hc)
    · exact u2g hb hp hs hk (by decide) (fun K => rfl) (fun c H L p bad why op hp hc => imm_14 hb hp hc)
    · exact u2g hb hp hs hk (by decide) (fun K => rfl) (fun c H L p bad why op hp hc => imm_15 hb hp hc)
    · exact u2g hb hp hs hk (by decide) (fun K => rfl) (fun c H L p bad why op hp hc => imm_16 hb hp hc)
  · rw [if_neg hs]
    exact uxk hb hp hs
end Go.Proofs.YthidcpkcfoldmaaGreat.Pi.Q
namespace Go.Proofs.YthidcpkcfoldmaaGreat.Pi.Q
open Go Go.Proofs.YthidcpkcfoldmaaGreat.Pi
attribute [local congr] ite_congr
variable {c : Nat} {H : Heap} {L : List Box} {b : List UInt8} {z : Bool} {p bad why : Nat}
def repE {α : Type} (one : TS → α × TS) : Nat → List α → TS → List α × TS
  | 0, l, t => (l, t)
  | k + 1, l, t => if t.why = 0 then repE one k (l ++ [(one t).1]) (one t).2 else (l, t)
end Go.Proofs.YthidcpkcfoldmaaGreat.Pi.Q
namespace Go.Proofs.YthidcpkcfoldmaaGreat.Pi.Q
open Go Go.Proofs.YthidcpkcfoldmaaGreat.Pi
variable {b : List UInt8}
theorem uv7 {α : Type} {one : TS → α × TS} {k : Nat} {l : List α} {t : TS} (h : t.why ≠ 0) : repE one k l t = (l, t) := by
  cases k with
  | zero => rfl
  | succ k => unfold repE; rw [if_neg h]
theorem repC_E {α : Type} {one : TS → α × TS} : ∀ (k : Nat) (l : List α) (t : TS), t.why = 0 ∨ k = 0 → (repE one k l t).2 = (repC one k l t).2 ∧ ((repC one k l t).2.why = 0 → (repE one k l t).1 = (repC one k l t).1)
  | 0, l, t, h => ⟨rfl, fun _ => rfl⟩
  | k + 1, l, t, h => by
    have h0 : t.why = 0 := by omega
    simp only [repE, repC, if_pos h0]
    by_cases h1 : (one t).2.why = 0
    · rw [if_pos h1]
      exact repC_E k _ _ (.inl h1)
    · rw [if_neg h1, uv7 h1]
      exact ⟨rfl, fun g => absurd g h1⟩
theorem repT_E {α : Type} {one : TS → α × TS} : ∀ (k : Nat) (l : List α) (t : TS), t.why = 0 ∨ k = 0 → (repE one k l t) = (repT one k l t).1 ∧ ((repT one k l t).2 = true → (repT one k l t).1.2.why ≠ 0)
  | 0, l, t, h => ⟨rfl, fun g => by cases g⟩
  | k + 1, l, t, h => by
    have h0 : t.why = 0 := by omega
    simp only [repE, repT, if_pos h0]
    by_cases h1 : (one t).2.why = 0
    · rw [if_pos h1]
      exact repT_E k _ _ (.inl h1)
    · rw [if_neg h1, uv7 h1]
      exact ⟨rfl, fun _ => h1⟩
theorem uzv (v : Int) : IntKind.u64.wrap (IntKind.u32.wrap (IntKind.i32.wrap v)) = (IntKind.u64.wrap v) % 4294967296 := by
  have e : ∀ n, IntKind.u64.wrap n = n % 18446744073709551616 := fun n => by simp only [IntKind.wrap, IntKind.signed, IntKind.bits]; simp
  rw [e, e, IntKind.wrap_u32, IntKind.wrap_i32]
  omega
end Go.Proofs.YthidcpkcfoldmaaGreat.Pi.Q
namespace Go.Proofs.YthidcpkcfoldmaaGreat.Pi.Q
open Go Go.Proofs.YthidcpkcfoldmaaGreat.Pi
variable {b : List UInt8}
structure II where
  op : Int := 0
  x : Int := 0
  y : Int := 0
  n : Int := 0
  al : Int := 0
  me : Int := 0
  off : Int := 0
  blk : BK := ⟨0, ⟨0, false, 0⟩⟩
  la : List Nat := []
  ty : List VT := []
  ca : List CN := []
def csII (v : II) : List PV := [.int .i64 v.op, .int .u32 v.x, .int .u32 v.y, .int .u64 v.n, .int .u32 v.al, .int .u32 v.me, .int .u64 v.off, .int .i64 v.blk.ty, .int .i64 v.blk.res.num, .bool v.blk.res.nul, .int .i64 v.blk.res.heap, .slice false true 0 [], .slice false true 0 [], .bool false, shutP 1 (v.la.map encN), shutP 3 (v.ty.map encV), shutP 3 (v.ca.map encCN)]
theorem sa_P {sz : Nat} {l : List PV} : stripC (accP sz l) = shutP sz l := by cases l <;> rfl
def memN (b : List UInt8) (t : TS) : Nat := if 63 < (upT b 127 4 t).1 then (tk (0 : Nat) (rdU b 32 b.length) (upT b 127 4 t).2).1 else 0
def tabN (b : List UInt8) (n : Nat) (t : TS) : Nat := if (labR b n [] t).2 = true then 0 else (tk (0 : Nat) (rdU b 32 b.length) (labR b n [] t).1.2).1
def immI (k op : Nat) (b : List UInt8) (t : TS) : II :=
  match k with
  | 2 => { op := op, blk := (tk (⟨0, ⟨0, false, 0⟩⟩ : BK) (rBlock b) t).1 }
  | 3 => { op := op, blk := (tk (⟨0, ⟨0, false, 0⟩⟩ : BK) (rBlock b) t).1, ca := (repC (clT b) (upT b 65536 2 (tk (⟨0, ⟨0, false, 0⟩⟩ : BK) (rBlock b) t).2).1 [] (upT b 65536 2 (tk (⟨0, ⟨0, false, 0⟩⟩ : BK) (rBlock b) t).2).2).1 }
  | 4 => { op := op, x := (tk (0 : Nat) (rdU b 32 b.length) t).1 }
  | 5 => { op := op, x := (tk (0 : Nat) (rdU b 32 b.length) t).1, y := (tk (0 : Nat) (rdU b 32 b.length) (tk (0 : Nat) (rdU b 32 b.length) t).2).1 }
  | 6 => { op := op, x := tabN b (upT b 65536 2 t).1 (upT b 65536 2 t).2, la := (labR b (upT b 65536 2 t).1 [] (upT b 65536 2 t).2).1.1 }
  | 7 => { op := op, ty := (valR b (upT b 1000 2 t).1 [] (upT b 1000 2 t).2).1.1 }
  | 8 => { op := op, al := ((upT b 127 4 t).1 % 64 : Nat), me := memN b t, off := (tk (0 : Nat) (rdU b 64 b.length) (memT b t)).1 }
  | 9 => { op := op, n := IntKind.u64.wrap (IntKind.u32.wrap (IntKind.i32.wrap (tk (0 : Int) (rdS b 32 b.length) t).1)) }
  | 10 => { op := op, n := IntKind.u64.wrap (tk (0 : Int) (rdS b 64 b.length) t).1 }
  | 11 => { op := op, n := (tk (0 : Nat) (rdF b 4 b.length) t).1 }
  | 12 => { op := op, n := (tk (0 : Nat) (rdF b 8 b.length) t).1 }
  | 13 => { op := op, ty := [⟨5, true, (tk (0 : Int) (rHeap b) t).1⟩] }
  | 14 => { op := op, ty := [⟨5, ((op : Int) % 2 == 1), (tk (0 : Int) (rHeap b) t).1⟩] }
  | 15 => { op := op, x := (tk (0 : Nat) (rdU b 32 b.length) (smT b 3 t).2).1, ty := [⟨5, ((smT b 3 t).1 % 2 != 0), (tk (0 : Int) (rHeap b) (tk (0 : Nat) (rdU b 32 b.length) (smT b 3 t).2).2).1⟩, ⟨5, ((smT b 3 t).1 / 2 % 2 * 2 != 0), (tk (0 : Int) (rHeap b) (tk (0 : Int) (rHeap b) (tk (0 : Nat) (rdU b 32 b.length) (smT b 3 t).2).2).2).1⟩] }
  | 16 => { op := op, x := (tk (0 : Nat) (rdU b 32 b.length) t).1, n := (tk (0 : Nat) (rdU b 32 b.length) (tk (0 : Nat) (rdU b 32 b.length) t).2).1 }
  | _ => { op := op }
theorem tabM_N {n : Nat} {t : TS} : tabM b n [] t (.int .u32 0) = .int .u32 (tabN b n t : Nat) := by unfold tabM tabN; split <;> rfl
theorem memM_N {t : TS} : memM b t (.int .u32 0) = .int .u32 (memN b t : Nat) := by unfold memM memN; split <;> rfl
theorem imm_I {k op : Nat} {t : TS} : (imm k op b t).1.map stripC = csII (immI k op b t) := by
  unfold imm immI csII
  split <;> simp only [List.map_cons, List.map_nil, uk1, sa_P, tabM_N, memM_N] <;> first | rfl | skip
def readI (b : List UInt8) (a : Nat) : II × TS := if (smT b 255 ⟨a, 0, 0⟩).2.why = 0 then (immI (formN ((opcT b ⟨a, 0, 0⟩).1 : Nat)) (opcT b ⟨a, 0, 0⟩).1 b (opcT b ⟨a, 0, 0⟩).2, (imm (formN ((opcT b ⟨a, 0, 0⟩).1 : Nat)) (opcT b ⟨a, 0, 0⟩).1 b (opcT b ⟨a, 0, 0⟩).2).2) else ({}, (smT b 255 ⟨a, 0, 0⟩).2)
theorem resI_I {a : Nat} : resI (readP b a) = if (readI b a).2.why = 0 then .tup [.agg (csII (readI b a).1), .int .i64 (readI b a).2.p, .int .i64 0] else .tup [.agg (csII {}), .int .i64 (readI b a).2.bad, .int .i64 (readI b a).2.why] := by
  unfold readP readI resI
  by_cases h : (smT b 255 (⟨a, 0, 0⟩ : TS)).2.why = 0
  · rw [if_pos h, if_pos h, imm_I]
    rfl
  · rw [if_neg h, if_neg h, if_neg h, if_neg h]
    rfl
end Go.Proofs.YthidcpkcfoldmaaGreat.Pi.Q
namespace Go.Proofs.YthidcpkcfoldmaaGreat.Pi.Q
open Go Go.Proofs.YthidcpkcfoldmaaGreat.Pi
attribute [local congr] ite_congr
theorem eql_s3 {H : Heap} {k1 k2 k3 : IntKind} {a b c : Int} : run (bi .eql (.struct [.int, .int, .int]) (.agg [.int k1 a, .int k2 b, .int k3 c]) (.agg [.int k1 a, .int k2 b, .int k3 c])) H = some (.ok (.bool true) H) := by
  unfold run bi
  simp [eqPV, u4q, u3o, M.pure]
theorem neq_s3 {H : Heap} {k1 k2 k3 : IntKind} {a b c : Int} : run (bi .neq (.struct [.int, .int, .int]) (.agg [.int k1 a, .int k2 b, .int k3 c]) (.agg [.int k1 a, .int k2 b, .int k3 c])) H = some (.ok (.bool false) H) := by
  unfold run bi
  simp [eqPV, u4q, u3o, M.pure]
end Go.Proofs.YthidcpkcfoldmaaGreat.Pi.Q
namespace Go.Proofs.YthidcpkcfoldmaaGreat.Pi.Q
open Go Go.Proofs.YthidcpkcfoldmaaGreat.Pi
theorem ujt {h : Int} {acc : List UInt8} (ha : acc.length ≤ 1) : kHeap h acc = match wHeap h with | .ok u => .ok () (acc ++ u) | .err _ => .err u0b [0, 4] := by
  unfold wHeap kHeap
  by_cases h0 : 0 ≤ h
  · rw [if_pos h0, if_pos h0]
    by_cases h1 : h ≤ 2147483647
    · rw [if_pos h1, if_pos h1]
      have := u9y 4 h (by omega) (by omega)
      unfold kPut
      rw [if_pos (by omega)]
    · rw [if_neg h1, if_neg h1]
  · rw [if_neg h0, if_neg h0]
    cases find h absI 0 with
    | none => rfl
    | some j =>
      exact if_pos (by simp; omega)
theorem eH_w {h : Int} : eH h = match wHeap h with | .ok u => (u, 0) | .err _ => ([], 4) := by
  unfold eH
  rw [ujt (by simp)]
  cases wHeap h <;> rfl
theorem kVal_w {v : VT} : kVal v [] = match wVal v with | .ok u => .ok () u | .err _ => .err u0b [0, 4] := by
  unfold kVal wVal
  by_cases h5 : v.num = 5
  · rw [if_pos h5, if_pos h5]
    by_cases hn : v.nul = false
    · rw [if_pos hn, if_pos hn]
      unfold kPut
      rw [if_pos (by simp)]
      simp only [Res.bind, List.nil_append]
      rw [ujt (by simp)]
      cases wHeap v.heap <;> rfl
    · rw [if_neg hn, if_neg hn]
      by_cases h0 : 0 ≤ v.heap
      · rw [if_pos h0, if_pos h0]
        unfold kPut
        rw [if_pos (by simp)]
        simp only [Res.bind, List.nil_append]
        rw [ujt (by simp)]
        cases wHeap v.heap <;> rfl
      · rw [if_neg h0, if_neg h0]
        simp only [Res.bind]
        rw [ujt (by simp)]
        cases wHeap v.heap <;> rfl
  · rw [if_neg h5, if_neg h5]
    split
    · rfl
    · rfl
theorem eV_w {v : VT} : eV v = match wVal v with | .ok u => (u, 0) | .err _ => ([], 4) := by
  unfold eV
  rw [kVal_w]
  cases wVal v <;> rfl
def wBlock (v : BK) : Wr :=
  if 0 ≤ v.ty then if v.res = ⟨0, false, 0⟩ ∧ v.ty ≤ 2147483647 then .ok (putS v.ty) else .err 4
  else if v.ty < -1 then .err 4
  else if v.res = ⟨0, false, 0⟩ then .ok [64] else wVal v.res
theorem eB_w {v : BK} : eB v = match wBlock v with | .ok u => (u, 0) | .err _ => ([], 4) := by
  unfold eB kBlock wBlock
  by_cases h0 : 0 ≤ v.ty
  · rw [if_pos h0, if_pos h0]
    split <;> rfl
  · rw [if_neg h0, if_neg h0]
    by_cases h1 : v.ty < -1
    · rw [if_pos h1, if_pos h1]; rfl
    · rw [if_neg h1, if_neg h1]
      by_cases h2 : v.res = ⟨0, false, 0⟩
      · rw [if_pos h2, if_pos h2]; rfl
      · rw [if_neg h2, if_neg h2, kVal_w]
        cases wVal v.res <;> rfl
theorem uun {v : VT} {u : List UInt8} (h : wVal v = .ok u) : ∃ c r, u = c :: r ∧ 64 < c.toNat ∧ c.toNat < 128 := by
  unfold wVal at h
  by_cases h5 : v.num = 5
  · rw [if_pos h5] at h
    obtain ⟨x, hx, rfl⟩ := uvi h
    by_cases hn : v.nul = false
    · rw [if_pos hn]; exact ⟨100, x, rfl, by decide, by decide⟩
    · rw [if_neg hn]
      by_cases h0 : 0 ≤ v.heap
      · rw [if_pos h0]; exact ⟨99, x, rfl, by decide, by decide⟩
      · rw [if_neg h0]
        unfold wHeap at hx
        rw [if_neg h0] at hx
        cases hf : find v.heap absI 0 with
        | none => rw [hf] at hx; cases hx
        | some j =>
          rw [hf] at hx
          have hj := (ud0 v.heap (by omega) j hf).1
          cases hx
          refine ⟨UInt8.ofNat (105 + j), [], rfl, ?_, ?_⟩ <;> rw [u1p (by omega)] <;> omega
  · rw [if_neg h5] at h
    split at h
    · rename_i hc
      cases h
      refine ⟨UInt8.ofNat (128 - v.num).toNat, [], rfl, ?_, ?_⟩ <;> rw [u1p (by omega)] <;> omega
    · cases h
theorem uro : Back rBlock wBlock := by
  intro v u h b p ha
  obtain ⟨ty, res⟩ := v
  unfold wBlock at h
  unfold rBlock
  by_cases h0 : 0 ≤ ty
  · rw [if_pos h0] at h
    split at h
    · rename_i hc
      obtain ⟨hc1, hc2⟩ := hc
      have hc1 : res = ⟨0, false, 0⟩ := hc1
      have hc2 : ty ≤ 2147483647 := hc2
      subst hc1
      cases h
      obtain ⟨c, r, hu, hh⟩ := ukg h0
      have hb := uoi h0 hc2 ha
      simp only at ha hb ⊢
      rw [hu] at ha
      obtain ⟨g1, g2, g3⟩ := u6a ha
      rw [if_pos g1, g2, if_neg (by omega), if_neg (by omega), hb]
    · cases h
  · rw [if_neg h0] at h
    by_cases h1 : ty < -1
    · rw [if_pos h1] at h; cases h
    · rw [if_neg h1] at h
      have ht : ty = -1 := by omega
      subst ht
      by_cases h2 : res = ⟨0, false, 0⟩
      · rw [if_pos h2] at h
        subst h2
        cases h
        obtain ⟨g1, g2, g3⟩ := u6a ha
        rw [if_pos g1, g2, if_pos (by decide)]
        rfl
      · rw [if_neg h2] at h
        obtain ⟨c, r, rfl, c1, c2⟩ := uun h
        have hb := ups _ _ h b p ha
        obtain ⟨g1, g2, g3⟩ := u6a ha
        rw [if_pos g1, g2, if_neg (by omega), if_pos ⟨c1, c2⟩, hb]
end Go.Proofs.YthidcpkcfoldmaaGreat.Pi.Q
namespace Go.Proofs.YthidcpkcfoldmaaGreat.Pi.Q
open Go Go.Proofs.YthidcpkcfoldmaaGreat.Pi
def Good {α : Type} (one : List UInt8 → TS → α × TS) (v : α) (u : List UInt8) : Prop := ∀ b t, At b t.p u → t.why = 0 → one b t = (v, ⟨t.p + u.length, t.bad, 0⟩)
def Lst {α : Type} (one : List UInt8 → TS → α × TS) (w : α → List UInt8 → Prop) : Prop := ∀ b t, (one b t).2.why = 0 → t.why = 0 ∧ ∃ u, w (one b t).1 u ∧ t.p + u.length ≤ (one b t).2.p
theorem ud5 {α : Type} {zero : α} {r : List UInt8 → Nat → Rs α} {v : α} {u : List UInt8} (h : ∀ b p, At b p u → r b p = .ok v (p + u.length)) : Good (fun b => tk zero (r b)) v u := by
  intro b t ha h0
  show tk zero (r b) t = _
  unfold tk
  rw [if_pos h0, h b t.p ha]
theorem Lst.mono {α : Type} {one : List UInt8 → TS → α × TS} {w w' : α → List UInt8 → Prop} (h : Lst one w) (g : ∀ v u, w v u → w' v u) : Lst one w' := fun b t h0 => by
  obtain ⟨h1, u, h2, h3⟩ := h b t h0
  exact ⟨h1, u, g _ _ h2, h3⟩
def wU (B v : Nat) (u : List UInt8) : Prop := v < 2 ^ B ∧ u = putU v
theorem U_good {B v : Nat} (hB : 0 < B) (hB' : B ≤ 64) (hv : v < 2 ^ B) : Good (fun b => tk (0 : Nat) (rdU b B b.length)) v (putU v) := ud5 (r := fun b => rdU b B b.length) fun b p ha => uz7 ha hB hB' hv
def wS (B : Nat) (v : Int) (u : List UInt8) : Prop := -(2 ^ (B - 1) : Nat) ≤ v ∧ v < (2 ^ (B - 1) : Nat) ∧ u = putS v
theorem S_good {B : Nat} {v : Int} (hB : 0 < B) (hB' : B ≤ 64) (h0 : -(2 ^ (B - 1) : Nat) ≤ v) (h1 : v < (2 ^ (B - 1) : Nat)) : Good (fun b => tk (0 : Int) (rdS b B b.length)) v (putS v) := ud5 (r := fun b => rdS b B b.length) fun b p ha => uw3 ha hB hB' h0 h1
theorem uqb {b : List UInt8} {p v : Nat} : ∀ (i n : Nat), (∀ j, j < i → (b.getD (p + j) 0).toNat = v / 256 ^ j % 256) → fixN b p i n = n * 256 ^ i + v % 256 ^ i
  | 0, n, h => by simp [fixN, Nat.mod_one]
  | i + 1, n, h => by
    rw [fixN, uqb i _ (fun j hj => h j (by omega)), h i (by omega), Nat.mod_pow_succ, Nat.pow_succ]
    have e1 : (n * 256 + v / 256 ^ i % 256) * 256 ^ i = n * 256 * 256 ^ i + v / 256 ^ i % 256 * 256 ^ i := Nat.add_mul ..
    have e2 : n * (256 ^ i * 256) = n * 256 * 256 ^ i := by rw [Nat.mul_comm (256 ^ i), Nat.mul_assoc]
    have e3 : 256 ^ i * (v / 256 ^ i % 256) = v / 256 ^ i % 256 * 256 ^ i := Nat.mul_comm ..
    omega
theorem uvp {v : Nat} : (iByte (v : Int)).toNat = v % 256 := by
  unfold iByte
  have e : IntKind.u8.wrap (v : Int) = ((v % 256 : Nat) : Int) := by rw [IntKind.wrap_u8]; omega
  rw [e, Int.toNat_natCast]
  exact u1p (by omega)
theorem uvv {b : List UInt8} : ∀ (k v p : Nat), At b p (fixL k v) → ∀ j, j < k → (b.getD (p + j) 0).toNat = v / 256 ^ j % 256
  | 0, v, p, h, j, hj => by omega
  | k + 1, v, p, h, j, hj => by
    obtain ⟨g1, g2, g3⟩ := u6a h
    rw [show (v : Int) / 256 = ((v / 256 : Nat) : Int) by omega] at g3
    cases j with
    | zero => rw [Nat.add_zero, g2, uvp]; simp
    | succ j =>
      have := uvv k (v / 256) (p + 1) g3 j (by omega)
      rw [show p + (j + 1) = p + 1 + j by omega, this, Nat.pow_succ, Nat.mul_comm, Nat.div_div_eq_div_mul]
def wF (k v : Nat) (u : List UInt8) : Prop := v < 256 ^ k ∧ u = fixL k v
theorem F_good {k v : Nat} (hv : v < 256 ^ k) : Good (fun b => tk (0 : Nat) (rdF b k b.length)) v (fixL k v) := ud5 (r := fun b => rdF b k b.length) fun b p ha => by
  have hl := at_le ha
  rw [uej] at hl ⊢
  unfold rdF
  rw [if_neg (by omega), uqb k 0 (uvv k v p ha), Nat.zero_mul, Nat.zero_add, Nat.mod_eq_of_lt hv]
theorem uin {most v : Nat} (hm : most < 256) (hv : v ≤ most) : Good (fun b => smT b most) v [UInt8.ofNat v] := by
  intro b t ha h0
  obtain ⟨g1, g2, g3⟩ := u6a ha
  show smT b most t = _
  unfold smT
  rw [if_pos h0, if_pos g1, g2, u1p (by omega), if_neg (by omega)]
  rfl
theorem v002 {most e v : Nat} (hm : most < 2 ^ 32) (hv : v ≤ most) : Good (fun b => upT b most e) v (putU v) := by
  intro b t ha h0
  have h := U_good (B := 32) (v := v) (by decide) (by decide) (by omega) b t ha h0
  have h : tk (0 : Nat) (rdU b 32 b.length) t = _ := h
  show upT b most e t = _
  unfold upT
  rw [h, if_neg (fun g => by have := g.2; simp only at this; omega)]
theorem H_good {h : Int} {u : List UInt8} (hu : wHeap h = .ok u) : Good (fun b => tk (0 : Int) (rHeap b)) h u := ud5 (r := rHeap) (ufa h u hu)
theorem V_good {v : VT} {u : List UInt8} (hu : wVal v = .ok u) : Good (fun b => tk valZ (rVal b)) v u := ud5 (r := rVal) (ups v u hu)
theorem B_good {v : BK} {u : List UInt8} (hu : wBlock v = .ok u) : Good (fun b => tk (⟨0, ⟨0, false, 0⟩⟩ : BK) (rBlock b)) v u := ud5 (r := rBlock) (uro v u hu)
def AllW {α : Type} (w : α → List UInt8 → Prop) : List α → List UInt8 → Prop
  | [], u => u = []
  | v :: l, u => ∃ x y, w v x ∧ AllW w l y ∧ u = x ++ y
theorem ukp {α : Type} {one : List UInt8 → TS → α × TS} {w : α → List UInt8 → Prop} (hg : ∀ v u, w v u → Good one v u) {b : List UInt8} : ∀ (l l0 : List α) (u : List UInt8) (t : TS), AllW w l u → At b t.p u → t.why = 0 → repE (one b) l.length l0 t = (l0 ++ l, ⟨t.p + u.length, t.bad, 0⟩)
  | [], l0, u, t, h, ha, h0 => by
    cases h
    obtain ⟨p, bad, why⟩ := t
    cases h0
    simp [repE]
  | v :: l, l0, u, t, h, ha, h0 => by
    obtain ⟨x, y, h1, h2, rfl⟩ := h
    obtain ⟨a1, a2⟩ := u2h ha
    have e := hg v x h1 b t a1 h0
    have ih := ukp hg (b := b) l (l0 ++ [v]) y ⟨t.p + x.length, t.bad, 0⟩ h2 a2 rfl
    rw [List.length_cons, repE, if_pos h0, e]
    simp only
    rw [ih, List.length_append, List.append_assoc]
    simp only [List.cons_append, List.nil_append, Nat.add_assoc]
end Go.Proofs.YthidcpkcfoldmaaGreat.Pi.Q
namespace Go.Proofs.YthidcpkcfoldmaaGreat.Pi.Q
open Go Go.Proofs.YthidcpkcfoldmaaGreat.Pi
abbrev wV (v : VT) (u : List UInt8) : Prop := wVal v = .ok u
def tagU (v : CN) : List UInt8 := if v.1 < 2 then putU v.2.1 else []
def wCl (v : CN) (u : List UInt8) : Prop := v.1 ≤ 3 ∧ v.2.1 < 2 ^ 32 ∧ v.2.2 < 2 ^ 32 ∧ (2 ≤ v.1 → v.2.1 = 0) ∧ u = [UInt8.ofNat v.1] ++ (tagU v ++ putU v.2.2)
theorem uzl {v : CN} {u : List UInt8} (h : wCl v u) : Good clT v u := by
  intro b t ha h0
  obtain ⟨k, g, l⟩ := v
  obtain ⟨h1, h2, h3, h4, rfl⟩ := h
  simp only at h1 h2 h3 h4 ha ⊢
  obtain ⟨a1, a2⟩ := u2h ha
  obtain ⟨a3, a4⟩ := u2h a2
  have e1 : smT b 3 t = _ := uin (by decide) h1 b t a1 h0
  unfold clT
  have et : tagT b t = (g, ⟨t.p + 1 + (tagU (k, g, l)).length, t.bad, 0⟩) := by
    unfold tagT
    rw [e1]
    unfold tagU at a3 ⊢
    by_cases hk : k < 2
    · simp only [if_pos hk] at a3 ⊢
      exact U_good (B := 32) (by decide) (by decide) h2 b ⟨t.p + 1, t.bad, 0⟩ a3 rfl
    · simp only [if_neg hk, List.length_nil, Nat.add_zero]
      rw [h4 (by omega)]
      rfl
  have e2 : tk (0 : Nat) (rdU b 32 b.length) ⟨t.p + 1 + (tagU (k, g, l)).length, t.bad, 0⟩ = _ := U_good (B := 32) (by decide) (by decide) h3 b ⟨t.p + 1 + (tagU (k, g, l)).length, t.bad, 0⟩ a4 rfl
  rw [et, e1]
  simp only
  rw [e2]
  simp only [List.length_append, List.length_cons, List.length_nil, Nat.add_assoc, Nat.zero_add]
def wBody (k : Nat) (v : II) (u : List UInt8) : Prop :=
  match k with
  | 1 => v = { op := v.op } ∧ u = []
  | 2 => ∃ r, v = { op := v.op, blk := r } ∧ wBlock r = .ok u
  | 3 => ∃ r l x y, v = { op := v.op, blk := r, ca := l } ∧ wBlock r = .ok x ∧ l.length ≤ 65536 ∧ AllW wCl l y ∧ u = x ++ (putU l.length ++ y)
  | 4 => ∃ n : Nat, v = { op := v.op, x := n } ∧ n < 2 ^ 32 ∧ u = putU n
  | 5 => ∃ n m : Nat, v = { op := v.op, x := n, y := m } ∧ n < 2 ^ 32 ∧ m < 2 ^ 32 ∧ u = putU n ++ putU m
  | 6 => ∃ (n : Nat) (l : List Nat) (y : List UInt8), v = { op := v.op, x := n, la := l } ∧ l.length ≤ 65536 ∧ AllW (wU 32) l y ∧ n < 2 ^ 32 ∧ u = putU l.length ++ (y ++ putU n)
  | 7 => ∃ l y, v = { op := v.op, ty := l } ∧ l.length ≤ 1000 ∧ AllW wV l y ∧ u = putU l.length ++ y
  | 8 => ∃ a m o : Nat, v = { op := v.op, al := a, me := m, off := o } ∧ a < 64 ∧ m < 2 ^ 32 ∧ o < 2 ^ 64 ∧ u = (if m = 0 then putU a else putU (a + 64) ++ putU m) ++ putU o
  | 9 => ∃ n : Int, v = { op := v.op, n := IntKind.u64.wrap (IntKind.u32.wrap (IntKind.i32.wrap n)) } ∧ wS 32 n u
  | 10 => ∃ n : Int, v = { op := v.op, n := IntKind.u64.wrap n } ∧ wS 64 n u
  | 11 => ∃ n : Nat, v = { op := v.op, n := n } ∧ wF 4 n u
  | 12 => ∃ n : Nat, v = { op := v.op, n := n } ∧ wF 8 n u
  | 13 => ∃ h, v = { op := v.op, ty := [⟨5, true, h⟩] } ∧ wHeap h = .ok u
  | 14 => ∃ h, v = { op := v.op, ty := [⟨5, (v.op % 2 == 1), h⟩] } ∧ wHeap h = .ok u
  | 15 => ∃ (c n : Nat) (h g : Int) (x y : List UInt8), v = { op := v.op, x := n, ty := [⟨5, (c % 2 != 0), h⟩, ⟨5, (c / 2 % 2 * 2 != 0), g⟩] } ∧ c ≤ 3 ∧ n < 2 ^ 32 ∧ wHeap h = .ok x ∧ wHeap g = .ok y ∧ u = [UInt8.ofNat c] ++ (putU n ++ (x ++ y))
  | 16 => ∃ n m : Nat, v = { op := v.op, x := n, n := m } ∧ n < 2 ^ 32 ∧ m < 2 ^ 32 ∧ u = putU n ++ putU m
  | _ => False
variable {b : List UInt8} {t : TS} {op : Nat} {v : II} {u : List UInt8}
theorem U_at {n : Nat} (hn : n < 2 ^ 32) (ha : At b t.p (putU n)) (h0 : t.why = 0) : tk (0 : Nat) (rdU b 32 b.length) t = (n, ⟨t.p + (putU n).length, t.bad, 0⟩) := U_good (B := 32) (by decide) (by decide) hn b t ha h0
theorem U64_at {n : Nat} (hn : n < 2 ^ 64) (ha : At b t.p (putU n)) (h0 : t.why = 0) : tk (0 : Nat) (rdU b 64 b.length) t = (n, ⟨t.p + (putU n).length, t.bad, 0⟩) := U_good (B := 64) (by decide) (by decide) hn b t ha h0
theorem Up_at {most e n : Nat} (hm : most < 2 ^ 32) (hn : n ≤ most) (ha : At b t.p (putU n)) (h0 : t.why = 0) : upT b most e t = (n, ⟨t.p + (putU n).length, t.bad, 0⟩) := v002 hm hn b t ha h0
theorem H_at {h : Int} {x : List UInt8} (hx : wHeap h = .ok x) (ha : At b t.p x) (h0 : t.why = 0) : tk (0 : Int) (rHeap b) t = (h, ⟨t.p + x.length, t.bad, 0⟩) := H_good hx b t ha h0
theorem B_at {r : BK} {x : List UInt8} (hx : wBlock r = .ok x) (ha : At b t.p x) (h0 : t.why = 0) : tk (⟨0, ⟨0, false, 0⟩⟩ : BK) (rBlock b) t = (r, ⟨t.p + x.length, t.bad, 0⟩) := B_good hx b t ha h0
theorem ugg {α : Type} {one : List UInt8 → TS → α × TS} {w : α → List UInt8 → Prop} (hg : ∀ v u, w v u → Good one v u) {l : List α} {y : List UInt8} (hl : AllW w l y) (ha : At b t.p y) (h0 : t.why = 0) : repE (one b) l.length [] t = (l, ⟨t.p + y.length, t.bad, 0⟩) := ukp hg l [] y t hl ha h0
theorem uvf {k : Nat} (hw : wBody k v u) (ha : At b t.p u) (h0 : t.why = 0) (ho : v.op = op) : immI k op b t = v ∧ (imm k op b t).2 = ⟨t.p + u.length, t.bad, 0⟩ := by
  unfold wBody at hw
  split at hw
  · obtain ⟨hv, rfl⟩ := hw
    rw [hv, ho]
    obtain ⟨p, bad, why⟩ := t
    cases h0
    exact ⟨rfl, rfl⟩
  · obtain ⟨r, hv, hr⟩ := hw
    have e := B_at hr ha h0
    rw [hv, ho]
    simp only [immI, imm, e, and_self]
  · obtain ⟨r, l, x, y, hv, hr, hl, hy, rfl⟩ := hw
    obtain ⟨a1, a2⟩ := u2h ha
    obtain ⟨a3, a4⟩ := u2h a2
    have e1 := B_at hr a1 h0
    have e2 := Up_at (e := 2) (t := ⟨t.p + x.length, t.bad, 0⟩) (most := 65536) (by decide) hl a3 rfl
    have e3 := ugg (t := ⟨t.p + x.length + (putU l.length).length, t.bad, 0⟩) (fun v u h => uzl h) hy a4 rfl
    have e4 := repC_E (one := clT b) l.length [] ⟨t.p + x.length + (putU l.length).length, t.bad, 0⟩ (.inl rfl)
    rw [e3] at e4
    have e5 : (repC (clT b) l.length [] (⟨t.p + x.length + (putU l.length).length, t.bad, 0⟩ : TS)).2 = _ := e4.1.symm
    have e6 := e4.2 (by rw [e5])
    rw [hv, ho]
    simp only [immI, imm, e1, e2, e5, ← e6]
    simp only [List.length_append, List.length_cons, List.length_nil, Nat.zero_add, Nat.add_assoc, Int.ofNat_zero, true_and, and_self]
  · obtain ⟨n, hv, hn, rfl⟩ := hw
    have e := U_at hn ha h0
    rw [hv, ho]
    simp only [immI, imm, e, and_self]
  · obtain ⟨n, m, hv, hn, hm, rfl⟩ := hw
    obtain ⟨a1, a2⟩ := u2h ha
    have e1 := U_at hn a1 h0
    have e2 := U_at (t := ⟨t.p + (putU n).length, t.bad, 0⟩) hm a2 rfl
    rw [hv, ho]
    simp only [immI, imm, e1, e2]
    simp only [List.length_append, List.length_cons, List.length_nil, Nat.zero_add, Nat.add_assoc, Int.ofNat_zero, true_and, and_self]
  · obtain ⟨n, l, y, hv, hl, hy, hn, rfl⟩ := hw
    obtain ⟨a1, a2⟩ := u2h ha
    obtain ⟨a3, a4⟩ := u2h a2
    have e2 := Up_at (e := 2) (most := 65536) (by decide) hl a1 h0
    have e3 := ugg (t := ⟨t.p + (putU l.length).length, t.bad, 0⟩) (one := fun b => tk (0 : Nat) (rdU b 32 b.length)) (fun v u h => by obtain ⟨h1, rfl⟩ := h; exact U_good (by decide) (by decide) h1) hy a3 rfl
    have e4 := repT_E (one := tk (0 : Nat) (rdU b 32 b.length)) l.length [] ⟨t.p + (putU l.length).length, t.bad, 0⟩ (.inl rfl)
    have e5 : (repT (tk (0 : Nat) (rdU b 32 b.length)) l.length [] (⟨t.p + (putU l.length).length, t.bad, 0⟩ : TS)).1 = (l, ⟨t.p + (putU l.length).length + y.length, t.bad, 0⟩) := e4.1.symm.trans e3
    have e6 : (repT (tk (0 : Nat) (rdU b 32 b.length)) l.length [] (⟨t.p + (putU l.length).length, t.bad, 0⟩ : TS)).2 = false := by
      cases hf : (repT (tk (0 : Nat) (rdU b 32 b.length)) l.length [] (⟨t.p + (putU l.length).length, t.bad, 0⟩ : TS)).2 with
      | false => rfl
      | true => exact absurd (by rw [e5]) (e4.2 hf)
    have e7 := U_at (t := ⟨t.p + (putU l.length).length + y.length, t.bad, 0⟩) hn a4 rfl
    rw [hv, ho]
    simp only [immI, imm, tabN, tabT, labR, e2, e5, e6, e7, Bool.false_eq_true, ↓reduceIte]
    simp only [List.length_append, List.length_cons, List.length_nil, Nat.zero_add, Nat.add_assoc, Int.ofNat_zero, true_and, and_self]
  · obtain ⟨l, y, hv, hl, hy, rfl⟩ := hw
    obtain ⟨a1, a2⟩ := u2h ha
    have e2 := Up_at (e := 2) (most := 1000) (by decide) hl a1 h0
    have e3 := ugg (t := ⟨t.p + (putU l.length).length, t.bad, 0⟩) (one := fun b => tk valZ (rVal b)) (fun v u h => V_good h) hy a2 rfl
    have e4 := repT_E (one := tk valZ (rVal b)) l.length [] ⟨t.p + (putU l.length).length, t.bad, 0⟩ (.inl rfl)
    have e5 : (repT (tk valZ (rVal b)) l.length [] (⟨t.p + (putU l.length).length, t.bad, 0⟩ : TS)).1 = (l, ⟨t.p + (putU l.length).length + y.length, t.bad, 0⟩) := e4.1.symm.trans e3
    rw [hv, ho]
    simp only [immI, imm, valR, e2, e5]
    simp only [List.length_append, List.length_cons, List.length_nil, Nat.zero_add, Nat.add_assoc, Int.ofNat_zero, true_and, and_self]
  · obtain ⟨a, m, o, hv, h1, h2, h3, rfl⟩ := hw
    obtain ⟨a1, a2⟩ := u2h ha
    rw [hv, ho]
    by_cases hm : m = 0
    · subst hm
      simp only [if_true] at a1 a2 ⊢
      have e1 := Up_at (e := 4) (most := 127) (n := a) (by decide) (by omega) a1 h0
      have e2 := U64_at (t := ⟨t.p + (putU a).length, t.bad, 0⟩) h3 a2 rfl
      have c1 : ¬ 63 < a := by omega
      have c2 : a % 64 = a := by omega
      simp only [immI, imm, memN, memT, memM, e1, if_neg c1, c2, e2]
      simp only [List.length_append, List.length_cons, List.length_nil, Nat.zero_add, Nat.add_assoc, Int.ofNat_zero, true_and, and_self]
    · simp only [if_neg hm] at a1 a2 ⊢
      obtain ⟨a3, a4⟩ := u2h a1
      have e1 := Up_at (e := 4) (most := 127) (n := a + 64) (by decide) (by omega) a3 h0
      have e2 := U_at (t := ⟨t.p + (putU (a + 64)).length, t.bad, 0⟩) h2 a4 rfl
      have e3 := U64_at (t := ⟨t.p + (putU (a + 64)).length + (putU m).length, t.bad, 0⟩) h3 (by rw [List.length_append, ← Nat.add_assoc] at a2; exact a2) rfl
      have c1 : 63 < a + 64 := by omega
      have c2 : (a + 64) % 64 = a := by omega
      simp only [immI, imm, memN, memT, memM, e1, if_pos c1, c2, e2, e3]
      simp only [List.length_append, List.length_cons, List.length_nil, Nat.zero_add, Nat.add_assoc, Int.ofNat_zero, true_and, and_self]
  · obtain ⟨n, hv, h1, h2, rfl⟩ := hw
    have e : tk (0 : Int) (rdS b 32 b.length) t = _ := S_good (B := 32) (by decide) (by decide) h1 h2 b t ha h0
    rw [hv, ho]
    simp only [immI, imm, e, and_self]
  · obtain ⟨n, hv, h1, h2, rfl⟩ := hw
    have e : tk (0 : Int) (rdS b 64 b.length) t = _ := S_good (B := 64) (by decide) (by decide) h1 h2 b t ha h0
    rw [hv, ho]
    simp only [immI, imm, e, and_self]
  · obtain ⟨n, hv, h1, rfl⟩ := hw
    have e : tk (0 : Nat) (rdF b 4 b.length) t = _ := F_good h1 b t ha h0
    rw [hv, ho]
    simp only [immI, imm, e, and_self]
  · obtain ⟨n, hv, h1, rfl⟩ := hw
    have e : tk (0 : Nat) (rdF b 8 b.length) t = _ := F_good h1 b t ha h0
    rw [hv, ho]
    simp only [immI, imm, e, and_self]
  · obtain ⟨h, hv, hh⟩ := hw
    have e := H_at hh ha h0
    rw [hv, ho]
    simp only [immI, imm, e, and_self]
  · obtain ⟨h, hv, hh⟩ := hw
    have e := H_at hh ha h0
    rw [hv, ho]
    simp only [immI, imm, e, and_self]
  · obtain ⟨c, n, h, g, x, y, hv, hc, hn, hx, hy, rfl⟩ := hw
    obtain ⟨a1, a2⟩ := u2h ha
    obtain ⟨a3, a4⟩ := u2h a2
    obtain ⟨a5, a6⟩ := u2h a4
    have e1 : smT b 3 t = _ := uin (by decide) hc b t a1 h0
    simp only [List.length_cons, List.length_nil, Nat.zero_add] at a3 a5 a6 e1
    have e2 := U_at (t := ⟨t.p + 1, t.bad, 0⟩) hn a3 rfl
    have e3 := H_at (t := ⟨t.p + 1 + (putU n).length, t.bad, 0⟩) hx a5 rfl
    have e4 := H_at (t := ⟨t.p + 1 + (putU n).length + x.length, t.bad, 0⟩) hy a6 rfl
    rw [hv, ho]
    simp only [immI, imm, e1, e2, e3, e4]
    simp only [List.length_append, List.length_cons, List.length_nil, Nat.zero_add, Nat.add_assoc, Int.ofNat_zero, true_and, and_self]
  · obtain ⟨n, m, hv, hn, hm, rfl⟩ := hw
    obtain ⟨a1, a2⟩ := u2h ha
    have e1 := U_at hn a1 h0
    have e2 := U_at (t := ⟨t.p + (putU n).length, t.bad, 0⟩) hm a2 rfl
    rw [hv, ho]
    simp only [immI, imm, e1, e2]
    simp only [List.length_append, List.length_cons, List.length_nil, Nat.zero_add, Nat.add_assoc, Int.ofNat_zero, true_and, and_self]
  · exact hw.elim
end Go.Proofs.YthidcpkcfoldmaaGreat.Pi.Q
namespace Go.Proofs.YthidcpkcfoldmaaGreat.Pi.Q
open Go Go.Proofs.YthidcpkcfoldmaaGreat.Pi
variable {b : List UInt8} {t : TS} {op k : Nat} {v : II} {u : List UInt8}
def II.ig (v : II) : IG := ⟨v.op, v.x, v.y, v.n, ⟨v.al, v.me, v.off⟩, v.blk, ⟨true, 0, []⟩, ⟨true, 0, []⟩, false, ⟨true, v.la.map (fun n : Nat => (n : Int))⟩, ⟨true, v.ty⟩, ⟨true, v.ca.map fun c => ⟨c.1, c.2.1, c.2.2⟩⟩⟩
theorem v004 : csII v = cs_IG v.ig := by
  unfold csII cs_IG II.ig
  simp only [uvr, List.map_map]
  rfl
theorem ujc {n : Nat} (h : n < 256) : iByte (n : Int) = UInt8.ofNat n := by
  unfold iByte
  rw [w_u8 (by omega), Int.toNat_natCast]
end Go.Proofs.YthidcpkcfoldmaaGreat.Pi.Q
namespace Go.Proofs.YthidcpkcfoldmaaGreat.Pi.Q
open Go Go.Proofs.YthidcpkcfoldmaaGreat.Pi
variable {b : List UInt8} {t : TS} {op k : Nat} {v : II} {u : List UInt8}
def wOp (op : Nat) : Prop := (op < 256 ∧ op ≠ 251 ∧ op ≠ 252 ∧ op ≠ 253) ∨ ∃ h k, (h = 251 ∨ h = 252) ∧ k ≤ 255 ∧ op = h * 256 + k
theorem uyj : ∀ n ∈ List.range 256, formN (n : Int) ≠ 0 → n ≠ 251 ∧ n ≠ 252 ∧ n ≠ 253 := by decide +kernel
theorem usy {op : Int} (h1 : ¬ (0 ≤ op ∧ op < 256)) (h2 : ¬ (64256 ≤ op ∧ op < 64320)) (h3 : ¬ (64512 ≤ op ∧ op < 64576)) : formN op = 0 := by
  have e1 := u8k (op := op) numP (fun r hr => by have := numP_u r hr; unfold inU at this; omega)
  have e2 := u8k (op := op) othP (fun r hr => by have := othP_u r hr; unfold inU at this; omega)
  have k1 : opP op = (0, ⟨#[]⟩, 0) := by unfold opP; split <;> assumption
  unfold formN
  rw [k1]
  rfl
theorem upl {op : Int} (h : formN op ≠ 0) : 0 ≤ op ∧ op < 65536 ∧ wOp op.toNat := by
  by_cases h1 : 0 ≤ op ∧ op < 256
  · have := uyj op.toNat (List.mem_range.mpr (by omega)) (by rw [Int.toNat_of_nonneg h1.1]; exact h)
    exact ⟨h1.1, by omega, .inl (by omega)⟩
  · by_cases h2 : 64256 ≤ op ∧ op < 64320
    · exact ⟨by omega, by omega, .inr ⟨251, op.toNat - 64256, .inl rfl, by omega, by omega⟩⟩
    · by_cases h3 : 64512 ≤ op ∧ op < 64576
      · exact ⟨by omega, by omega, .inr ⟨252, op.toNat - 64512, .inr rfl, by omega, by omega⟩⟩
      · exact absurd (usy h1 h2 h3) h
theorem uz6 (h : op < 256) : (iOp (op : Int)).1 = [UInt8.ofNat op] := by
  unfold iOp
  simp only
  rw [if_neg (by omega), ujc h]
theorem v005 {h k : Nat} (hh : h = 251 ∨ h = 252) (hk : k ≤ 255) : (iOp ((h * 256 + k : Nat) : Int)).1 = UInt8.ofNat h :: putU k := by
  have e1 : (((h * 256 + k : Nat) : Int) / 256) = (h : Int) := by omega
  have e2 : (((h * 256 + k : Nat) : Int) % 256).toNat = k := by omega
  unfold iOp
  simp only
  rw [if_pos (by omega), e1, e2, ujc (by omega)]
theorem fmT_id {a : Nat} (h : formN op ≠ 0) : fmT a op t = t := by unfold fmT; rw [if_neg h]
theorem uzw (hw : wOp op) (hf : formN op ≠ 0) (ha : At b t.p (iOp op).1) (h0 : t.why = 0) : (smT b 255 t).2.why = 0 ∧ opcT b t = (op, ⟨t.p + (iOp op).1.length, t.bad, 0⟩) := by
  rcases hw with ⟨h1, h2, h3, h4⟩ | ⟨h, k, hh, hk, rfl⟩
  · rw [uz6 h1] at ha ⊢
    have e : smT b 255 t = _ := uin (by decide) (by omega) b t ha h0
    unfold opcT
    rw [e]
    simp only
    rw [if_neg h4, if_neg (by omega), fmT_id hf]
    exact ⟨trivial, rfl⟩
  · rw [v005 hh hk] at ha ⊢
    have a1 : At b t.p ([UInt8.ofNat h] ++ putU k) := ha
    obtain ⟨a2, a3⟩ := u2h a1
    have e : smT b 255 t = _ := uin (by decide) (by omega) b t a2 h0
    simp only [List.length_cons, List.length_nil, Nat.zero_add] at a3 e
    have e2 := Up_at (e := 4) (most := 255) (t := ⟨t.p + 1, t.bad, 0⟩) (by decide) hk a3 rfl
    have e3 : ∀ s : TS, s.why = 0 → pfT t.p s = s := fun s hs => by unfold pfT; rw [if_neg (by omega)]
    unfold opcT
    rw [e]
    simp only
    rw [e2, if_neg (by omega), if_pos hh, e3 _ rfl, fmT_id hf]
    refine ⟨trivial, ?_⟩
    simp only [List.length_cons, Prod.mk.injEq, TS.mk.injEq, true_and, and_true]
    omega
def wInstr (v : II) (u : List UInt8) : Prop := ∃ x, formN v.op ≠ 0 ∧ wBody (formN v.op) v x ∧ u = (iOp v.op).1 ++ x
theorem usc {p : Nat} (h : wInstr v u) (ha : At b p u) : readI b p = (v, ⟨p + u.length, 0, 0⟩) := by
  obtain ⟨x, h1, h2, rfl⟩ := h
  obtain ⟨h3, h4, h5⟩ := upl h1
  obtain ⟨a1, a2⟩ := u2h ha
  obtain ⟨n, hn⟩ := Int.eq_ofNat_of_zero_le h3
  rw [hn] at h1 h2 a1 a2 h5 ⊢
  rw [Int.toNat_natCast] at h5
  obtain ⟨g1, g2⟩ := uzw (t := ⟨p, 0, 0⟩) h5 h1 a1 rfl
  have hg := uvf (t := ⟨p + (iOp (n : Int)).1.length, 0, 0⟩) (op := n) h2 a2 rfl hn
  unfold readI
  rw [if_pos g1, g2]
  simp only
  rw [hg.1, hg.2, List.length_append, Nat.add_assoc]
end Go.Proofs.YthidcpkcfoldmaaGreat.Pi.Q
namespace Go.Proofs.YthidcpkcfoldmaaGreat.Pi.Q
open Go Go.Proofs.YthidcpkcfoldmaaGreat.Pi
attribute [local congr] ite_congr
variable {H : Heap} {v w : IG}
theorem uty {k1 k3 : IntKind} {a c : Int} {t : Bool} : run (bi .eql (.struct [.int, .bool, .int]) (.agg [.int k1 a, .bool t, .int k3 c]) (.agg [.int k1 a, .bool t, .int k3 c])) H = some (.ok (.bool true) H) := by
  unfold run bi
  simp [eqPV, u4q, u3o, M.pure]
theorem uco {v : VT} : run (C u7u [.agg [.int .i64 v.num, .bool v.nul, .int .i64 v.heap], .agg [.int .i64 v.num, .bool v.nul, .int .i64 v.heap]]) H = some (.ok (.bool true) H) := by
  rw [ujr]
  by_cases h : v.num = 5
  · have e : (v.num = 5) = True := eq_true h
    simp +contextual -dsimp (disch := omega) only [↓goDown, goUp, cr, simprocAttr, u37, uty, e]
  · have e : (v.num = 5) = False := eq_false h
    simp +contextual -dsimp (disch := omega) only [↓goDown, goUp, cr, simprocAttr, u37, uty, e]
theorem u9o : run (C u3s [.slice false true 0 [], .slice false true 0 []]) H = some (.ok (.bool true) H) := by
  have hl : ∀ v4, run (u2m (.slice false true 0 []) (.slice false true 0 []) v4 (.int .i64 0) (.int .i64 0)) H = some (.ok (.bool true) H) := fun v4 => by
    rw [u7j]
    simp +contextual -dsimp (disch := omega) only [↓goDown, goUp, cr, simprocAttr, show ((0 : Nat) : Int) = 0 from rfl, Int.lt_irrefl]
  rw [ubg]
  simp +contextual -dsimp (disch := omega) only [↓goDown, goUp, cr, simprocAttr, u2u, show ((0 : Nat) : Int) = 0 from rfl, hl]
theorem u49 {a : PV} {s : ByteArray} {n : Int} : fd 2 none (.agg [a, .str s, .int .i64 n]) = M.pure (.int .i64 n) := nrfl rfl
theorem u57 {op : Int} {k : Nat} (h0 : -9223372036854775808 ≤ op) (h1 : op ≤ 9223372036854775807) (hk : formN op = k) : run (C u3m [.int .i64 op]) H = some (.ok (.agg [.int .i64 (opP op).1, .str (opP op).2.1, .int .i64 k]) H) := by
  rw [uip h0 h1]
  unfold encK
  rw [ujl, hk]
theorem uf5 {z z' : Bool} {v4 : PV} {l : List Int} (hl : l.length < 2 ^ 62) : ∀ (m i : Nat), i + m = l.length → run (u1k (LZ z 1 (l.map encU32)) (LZ z' 1 (l.map encU32)) v4 (.int .i64 l.length) (.int .i64 i)) H = some (.ok (.bool true) H)
  | 0, i, h => by
    rw [u4z]
    have c1 : ¬ (i : Int) < l.length := by omega
    simp +contextual -dsimp (disch := omega) only [↓goDown, goUp, cr, simprocAttr, c1]
  | m + 1, i, h => by
    have ih := uf5 hl (z := z) (z' := z') (v4 := v4) m (i + 1) (by omega)
    rw [u4z]
    have c1 : (i : Int) < l.length := by omega
    have hi : i < l.length := by omega
    have hg : (l.map encU32)[i]? = some (encU32 l[i]) := by simp [hi]
    have hia : ∀ z, run (iaS 1 (LZ z 1 (l.map encU32)) (.int .i64 i)) H = some (.ok (.elem [.int .u32 l[i]]) H) := fun z => ia_Z hg
    simp +contextual -dsimp (disch := omega) only [↓goDown, goUp, cr, simprocAttr, strip_Z, c1, hia, u2u, ns]
    exact ih
theorem una {z z' : Bool} {l : List Int} (hl : l.length < 2 ^ 62) : run (C u4p [LZ z 1 (l.map encU32), LZ z' 1 (l.map encU32)]) H = some (.ok (.bool true) H) := by
  rw [ua9]
  have lp : ∀ (v4 : PV), run (u1k (LZ z 1 (l.map encU32)) (LZ z' 1 (l.map encU32)) v4 (.int .i64 l.length) (.int .i64 0)) H = some (.ok (.bool true) H) := fun v4 => uf5 hl l.length 0 (by omega)
  simp +contextual -dsimp (disch := omega) only [↓goDown, goUp, cr, simprocAttr, strip_Z, ln_Z, List.length_map, u2u, lp]
theorem ufl {z z' : Bool} {v4 : PV} {l : List CH} (hl : l.length < 2 ^ 62) : ∀ (m i : Nat), i + m = l.length → run (u13 (LZ z 3 (l.map encCH)) (LZ z' 3 (l.map encCH)) v4 (.int .i64 l.length) (.int .i64 i)) H = some (.ok (.bool true) H)
  | 0, i, h => by
    rw [u46]
    have c1 : ¬ (i : Int) < l.length := by omega
    simp +contextual -dsimp (disch := omega) only [↓goDown, goUp, cr, simprocAttr, c1]
  | m + 1, i, h => by
    have ih := ufl hl (z := z) (z' := z') (v4 := v4) m (i + 1) (by omega)
    rw [u46]
    have c1 : (i : Int) < l.length := by omega
    have hi : i < l.length := by omega
    have hg : (l.map encCH)[i]? = some (encCH l[i]) := by simp [hi]
    have hia : ∀ z, run (iaS 3 (LZ z 3 (l.map encCH)) (.int .i64 i)) H = some (.ok (.elem [.int .i64 l[i].kind, .int .u32 l[i].tag, .int .u32 l[i].label]) H) := fun z => ia_Z hg
    simp +contextual -dsimp (disch := omega) only [↓goDown, goUp, cr, simprocAttr, strip_Z, c1, hia, neq_s3, ns]
    exact ih
theorem un9 {z z' : Bool} {l : List CH} (hl : l.length < 2 ^ 62) : run (C u3f [LZ z 3 (l.map encCH), LZ z' 3 (l.map encCH)]) H = some (.ok (.bool true) H) := by
  rw [u8s]
  have lp : ∀ (v4 : PV), run (u13 (LZ z 3 (l.map encCH)) (LZ z' 3 (l.map encCH)) v4 (.int .i64 l.length) (.int .i64 0)) H = some (.ok (.bool true) H) := fun v4 => ufl hl l.length 0 (by omega)
  simp +contextual -dsimp (disch := omega) only [↓goDown, goUp, cr, simprocAttr, strip_Z, ln_Z, List.length_map, u2u, lp]
theorem ugt {z z' : Bool} {v4 : PV} {l : List VT} (hl : l.length < 2 ^ 62) : ∀ (m i : Nat), i + m = l.length → run (u20 (LZ z 3 (l.map encV)) (LZ z' 3 (l.map encV)) v4 (.int .i64 l.length) (.int .i64 i)) H = some (.ok (.bool true) H)
  | 0, i, h => by
    rw [u5o]
    have c1 : ¬ (i : Int) < l.length := by omega
    simp +contextual -dsimp (disch := omega) only [↓goDown, goUp, cr, simprocAttr, c1]
  | m + 1, i, h => by
    have ih := ugt hl (z := z) (z' := z') (v4 := v4) m (i + 1) (by omega)
    rw [u5o]
    have c1 : (i : Int) < l.length := by omega
    have hi : i < l.length := by omega
    have hg : (l.map encV)[i]? = some (encV l[i]) := by simp [hi]
    have hia : ∀ z, run (iaS 3 (LZ z 3 (l.map encV)) (.int .i64 i)) H = some (.ok (.elem [.int .i64 l[i].num, .bool l[i].nul, .int .i64 l[i].heap]) H) := fun z => ia_Z hg
    have hsame := uco (H := H) (v := l[i])
    simp +contextual -dsimp (disch := omega) only [↓goDown, goUp, cr, simprocAttr, strip_Z, c1, hia, hsame, un_not, ns]
    exact ih
theorem u8u {z z' : Bool} {l : List VT} (hl : l.length < 2 ^ 62) : run (C u4e [LZ z 3 (l.map encV), LZ z' 3 (l.map encV)]) H = some (.ok (.bool true) H) := by
  rw [ubw]
  have lp : ∀ (v4 : PV), run (u20 (LZ z 3 (l.map encV)) (LZ z' 3 (l.map encV)) v4 (.int .i64 l.length) (.int .i64 0)) H = some (.ok (.bool true) H) := fun v4 => ugt hl l.length 0 (by omega)
  simp +contextual -dsimp (disch := omega) only [↓goDown, goUp, cr, simprocAttr, strip_Z, ln_Z, List.length_map, u2u, lp]
theorem v00k : formN 31 = 3 := by decide +kernel
def bare (v : IG) : Prop := v.body = ⟨true, 0, []⟩ ∧ v.els = ⟨true, 0, []⟩ ∧ v.hasElse = false
def sameF (k : Nat) (v w : IG) : Prop :=
  match k with
  | 2 => w.block = v.block
  | 3 => w.block = v.block ∧ w.catches.l = v.catches.l
  | 4 => w.x = v.x
  | 5 => w.x = v.x ∧ w.y = v.y
  | 6 => w.x = v.x ∧ w.labels.l = v.labels.l
  | 7 | 13 | 14 => w.types.l = v.types.l
  | 8 => w.mem = v.mem
  | 9 | 10 | 11 | 12 => w.n = v.n
  | 15 => w.x = v.x ∧ w.types.l = v.types.l
  | 16 => w.x = v.x ∧ w.n = v.n
  | _ => True
theorem v00f (hv : bare v) (hw : bare w) (l1 : v.labels.l.length < 2 ^ 62) (l2 : v.types.l.length < 2 ^ 62) (l3 : v.catches.l.length < 2 ^ 62) (h0 : -9223372036854775808 ≤ v.op) (h1 : v.op ≤ 9223372036854775807) (hk : formN v.op = 0) (ho : w.op = v.op) (hf : sameF 0 v w) : run (C u0l [.agg (cs_IG v), .agg (cs_IG w)]) H = some (.ok (.bool true) H) := by
  have hfd := fun K => u57 (H := K) h0 h1 hk
  simp only [show ((0 : Nat) : Int) = 0 from rfl] at hfd
  obtain ⟨b1, b2, b3⟩ := hv
  obtain ⟨d1, d2, d3⟩ := hw
  rw [u0x]
  unfold cs_IG
  rw [b1, b2, b3, d1, d2, d3, ho]
  simp +contextual -dsimp (disch := omega) only [↓goDown, goUp, cr, simprocAttr, u37, u2u, u2l, eql_s3, strip_Z, u08, u0e, low_Z, u09, hfd, u49, u06, u02, u00]
theorem uyu (hv : bare v) (hw : bare w) (l1 : v.labels.l.length < 2 ^ 62) (l2 : v.types.l.length < 2 ^ 62) (l3 : v.catches.l.length < 2 ^ 62) (h0 : -9223372036854775808 ≤ v.op) (h1 : v.op ≤ 9223372036854775807) (hk : formN v.op = 1) (ho : w.op = v.op) (hf : sameF 1 v w) : run (C u0l [.agg (cs_IG v), .agg (cs_IG w)]) H = some (.ok (.bool true) H) := by
  have hfd := fun K => u57 (H := K) h0 h1 hk
  simp only [show ((1 : Nat) : Int) = 1 from rfl] at hfd
  obtain ⟨b1, b2, b3⟩ := hv
  obtain ⟨d1, d2, d3⟩ := hw
  rw [u0x]
  unfold cs_IG
  rw [b1, b2, b3, d1, d2, d3, ho]
  simp +contextual -dsimp (disch := omega) only [↓goDown, goUp, cr, simprocAttr, u37, u2u, u2l, eql_s3, strip_Z, u08, u0e, low_Z, u09, hfd, u49, u06, u02, u00]
theorem uzr (hv : bare v) (hw : bare w) (l1 : v.labels.l.length < 2 ^ 62) (l2 : v.types.l.length < 2 ^ 62) (l3 : v.catches.l.length < 2 ^ 62) (h0 : -9223372036854775808 ≤ v.op) (h1 : v.op ≤ 9223372036854775807) (hk : formN v.op = 2) (ho : w.op = v.op) (hf : sameF 2 v w) : run (C u0l [.agg (cs_IG v), .agg (cs_IG w)]) H = some (.ok (.bool true) H) := by
  have hfd := fun K => u57 (H := K) h0 h1 hk
  simp only [show ((2 : Nat) : Int) = 2 from rfl] at hfd
  obtain ⟨b1, b2, b3⟩ := hv
  obtain ⟨d1, d2, d3⟩ := hw
  have hb := hf
  simp only [sameF] at hb
  have hts := fun K => uco (H := K) (v := v.block.res)
  have hnb := fun K => u9o (H := K)
  rw [u0x]
  unfold cs_IG
  rw [b1, b2, b3, d1, d2, d3, ho]
  simp only [hb]
  by_cases h4 : v.op = 4
  · have h4' : (v.op = 4) = True := eq_true h4
    have h31 : (v.op = 31) = False := eq_false (by omega)
    simp +contextual -dsimp (disch := omega) only [↓goDown, goUp, cr, simprocAttr, u37, u2u, u2l, eql_s3, strip_Z, u08, u0e, low_Z, u09, hfd, u49, hts, hnb, un_not, h4', h31, u06, u02, u00]
  · have h4' : (v.op = 4) = False := eq_false h4
    have h31 : (v.op = 31) = False := eq_false (fun e => by rw [e, v00k] at hk; cases hk)
    simp +contextual -dsimp (disch := omega) only [↓goDown, goUp, cr, simprocAttr, u37, u2u, u2l, eql_s3, strip_Z, u08, u0e, low_Z, u09, hfd, u49, hts, hnb, un_not, h4', h31, u06, u02, u00]
theorem uz4 (hv : bare v) (hw : bare w) (l1 : v.labels.l.length < 2 ^ 62) (l2 : v.types.l.length < 2 ^ 62) (l3 : v.catches.l.length < 2 ^ 62) (h0 : -9223372036854775808 ≤ v.op) (h1 : v.op ≤ 9223372036854775807) (hk : formN v.op = 3) (ho : w.op = v.op) (hf : sameF 3 v w) : run (C u0l [.agg (cs_IG v), .agg (cs_IG w)]) H = some (.ok (.bool true) H) := by
  have hfd := fun K => u57 (H := K) h0 h1 hk
  simp only [show ((3 : Nat) : Int) = 3 from rfl] at hfd
  obtain ⟨b1, b2, b3⟩ := hv
  obtain ⟨d1, d2, d3⟩ := hw
  obtain ⟨hb, hc⟩ := hf
  have hts := fun K => uco (H := K) (v := v.block.res)
  have hnb := fun K => u9o (H := K)
  have hcs := fun K => un9 (H := K) (z := v.catches.z) (z' := w.catches.z) l3
  rw [u0x]
  unfold cs_IG
  rw [b1, b2, b3, d1, d2, d3, ho]
  simp only [hb, hc]
  by_cases h4 : v.op = 4
  · have h4' : (v.op = 4) = True := eq_true h4
    have h31 : (v.op = 31) = False := eq_false (by omega)
    simp +contextual -dsimp (disch := omega) only [↓goDown, goUp, cr, simprocAttr, u37, u2u, u2l, eql_s3, strip_Z, u08, u0e, low_Z, u09, hfd, u49, hts, hnb, un_not, hcs, h4', h31, u06, u02, u00]
  · have h4' : (v.op = 4) = False := eq_false h4
    by_cases h31 : v.op = 31
    · have h31' : (v.op = 31) = True := eq_true h31
      simp +contextual -dsimp (disch := omega) only [↓goDown, goUp, cr, simprocAttr, u37, u2u, u2l, eql_s3, strip_Z, u08, u0e, low_Z, u09, hfd, u49, hts, hnb, un_not, hcs, h4', h31', u06, u02, u00]
    · have h31' : (v.op = 31) = False := eq_false h31
      simp +contextual -dsimp (disch := omega) only [↓goDown, goUp, cr, simprocAttr, u37, u2u, u2l, eql_s3, strip_Z, u08, u0e, low_Z, u09, hfd, u49, hts, hnb, un_not, hcs, h4', h31', u06, u02, u00]
theorem v008 (hv : bare v) (hw : bare w) (l1 : v.labels.l.length < 2 ^ 62) (l2 : v.types.l.length < 2 ^ 62) (l3 : v.catches.l.length < 2 ^ 62) (h0 : -9223372036854775808 ≤ v.op) (h1 : v.op ≤ 9223372036854775807) (hk : formN v.op = 4) (ho : w.op = v.op) (hf : sameF 4 v w) : run (C u0l [.agg (cs_IG v), .agg (cs_IG w)]) H = some (.ok (.bool true) H) := by
  have hfd := fun K => u57 (H := K) h0 h1 hk
  simp only [show ((4 : Nat) : Int) = 4 from rfl] at hfd
  obtain ⟨b1, b2, b3⟩ := hv
  obtain ⟨d1, d2, d3⟩ := hw
  have hx := hf
  simp only [sameF] at hx
  rw [u0x]
  unfold cs_IG
  rw [b1, b2, b3, d1, d2, d3, ho]
  simp only [hx]
  simp +contextual -dsimp (disch := omega) only [↓goDown, goUp, cr, simprocAttr, u37, u2u, u2l, eql_s3, strip_Z, u08, u0e, low_Z, u09, hfd, u49, u06, u02, u00]
theorem uz2 (hv : bare v) (hw : bare w) (l1 : v.labels.l.length < 2 ^ 62) (l2 : v.types.l.length < 2 ^ 62) (l3 : v.catches.l.length < 2 ^ 62) (h0 : -9223372036854775808 ≤ v.op) (h1 : v.op ≤ 9223372036854775807) (hk : formN v.op = 5) (ho : w.op = v.op) (hf : sameF 5 v w) : run (C u0l [.agg (cs_IG v), .agg (cs_IG w)]) H = some (.ok (.bool true) H) := by
  have hfd := fun K => u57 (H := K) h0 h1 hk
  simp only [show ((5 : Nat) : Int) = 5 from rfl] at hfd
  obtain ⟨b1, b2, b3⟩ := hv
  obtain ⟨d1, d2, d3⟩ := hw
  obtain ⟨hx, hy⟩ := hf
  rw [u0x]
  unfold cs_IG
  rw [b1, b2, b3, d1, d2, d3, ho]
  simp only [hx, hy]
  simp +contextual -dsimp (disch := omega) only [↓goDown, goUp, cr, simprocAttr, u37, u2u, u2l, eql_s3, strip_Z, u08, u0e, low_Z, u09, hfd, u49, u06, u02, u00]
theorem uz9 (hv : bare v) (hw : bare w) (l1 : v.labels.l.length < 2 ^ 62) (l2 : v.types.l.length < 2 ^ 62) (l3 : v.catches.l.length < 2 ^ 62) (h0 : -9223372036854775808 ≤ v.op) (h1 : v.op ≤ 9223372036854775807) (hk : formN v.op = 6) (ho : w.op = v.op) (hf : sameF 6 v w) : run (C u0l [.agg (cs_IG v), .agg (cs_IG w)]) H = some (.ok (.bool true) H) := by
  have hfd := fun K => u57 (H := K) h0 h1 hk
  simp only [show ((6 : Nat) : Int) = 6 from rfl] at hfd
  obtain ⟨b1, b2, b3⟩ := hv
  obtain ⟨d1, d2, d3⟩ := hw
  obtain ⟨hx, hl⟩ := hf
  have hls := fun K => una (H := K) (z := v.labels.z) (z' := w.labels.z) l1
  rw [u0x]
  unfold cs_IG
  rw [b1, b2, b3, d1, d2, d3, ho]
  simp only [hx, hl]
  simp +contextual -dsimp (disch := omega) only [↓goDown, goUp, cr, simprocAttr, u37, u2u, u2l, eql_s3, strip_Z, u08, u0e, low_Z, u09, hfd, u49, hls, u06, u02, u00]
theorem uzj (hv : bare v) (hw : bare w) (l1 : v.labels.l.length < 2 ^ 62) (l2 : v.types.l.length < 2 ^ 62) (l3 : v.catches.l.length < 2 ^ 62) (h0 : -9223372036854775808 ≤ v.op) (h1 : v.op ≤ 9223372036854775807) (hk : formN v.op = 7) (ho : w.op = v.op) (hf : sameF 7 v w) : run (C u0l [.agg (cs_IG v), .agg (cs_IG w)]) H = some (.ok (.bool true) H) := by
  have hfd := fun K => u57 (H := K) h0 h1 hk
  simp only [show ((7 : Nat) : Int) = 7 from rfl] at hfd
  obtain ⟨b1, b2, b3⟩ := hv
  obtain ⟨d1, d2, d3⟩ := hw
  have ht := hf
  simp only [sameF] at ht
  have hts := fun K => u8u (H := K) (z := v.types.z) (z' := w.types.z) l2
  rw [u0x]
  unfold cs_IG
  rw [b1, b2, b3, d1, d2, d3, ho]
  simp only [ht]
  simp +contextual -dsimp (disch := omega) only [↓goDown, goUp, cr, simprocAttr, u37, u2u, u2l, eql_s3, strip_Z, u08, u0e, low_Z, u09, hfd, u49, hts, u06, u02, u00]
theorem uzb (hv : bare v) (hw : bare w) (l1 : v.labels.l.length < 2 ^ 62) (l2 : v.types.l.length < 2 ^ 62) (l3 : v.catches.l.length < 2 ^ 62) (h0 : -9223372036854775808 ≤ v.op) (h1 : v.op ≤ 9223372036854775807) (hk : formN v.op = 8) (ho : w.op = v.op) (hf : sameF 8 v w) : run (C u0l [.agg (cs_IG v), .agg (cs_IG w)]) H = some (.ok (.bool true) H) := by
  have hfd := fun K => u57 (H := K) h0 h1 hk
  simp only [show ((8 : Nat) : Int) = 8 from rfl] at hfd
  obtain ⟨b1, b2, b3⟩ := hv
  obtain ⟨d1, d2, d3⟩ := hw
  have hm := hf
  simp only [sameF] at hm
  rw [u0x]
  unfold cs_IG
  rw [b1, b2, b3, d1, d2, d3, ho]
  simp only [hm]
  simp +contextual -dsimp (disch := omega) only [↓goDown, goUp, cr, simprocAttr, u37, u2u, u2l, eql_s3, strip_Z, u08, u0e, low_Z, u09, hfd, u49, u06, u02, u00]
theorem uzq (hv : bare v) (hw : bare w) (l1 : v.labels.l.length < 2 ^ 62) (l2 : v.types.l.length < 2 ^ 62) (l3 : v.catches.l.length < 2 ^ 62) (h0 : -9223372036854775808 ≤ v.op) (h1 : v.op ≤ 9223372036854775807) (hk : formN v.op = 9) (ho : w.op = v.op) (hf : sameF 9 v w) : run (C u0l [.agg (cs_IG v), .agg (cs_IG w)]) H = some (.ok (.bool true) H) := by
  have hfd := fun K => u57 (H := K) h0 h1 hk
  simp only [show ((9 : Nat) : Int) = 9 from rfl] at hfd
  obtain ⟨b1, b2, b3⟩ := hv
  obtain ⟨d1, d2, d3⟩ := hw
  have hn := hf
  simp only [sameF] at hn
  rw [u0x]
  unfold cs_IG
  rw [b1, b2, b3, d1, d2, d3, ho]
  simp only [hn]
  simp +contextual -dsimp (disch := omega) only [↓goDown, goUp, cr, simprocAttr, u37, u2u, u2l, eql_s3, strip_Z, u08, u0e, low_Z, u09, hfd, u49, u06, u02, u00]
theorem uxs (hv : bare v) (hw : bare w) (l1 : v.labels.l.length < 2 ^ 62) (l2 : v.types.l.length < 2 ^ 62) (l3 : v.catches.l.length < 2 ^ 62) (h0 : -9223372036854775808 ≤ v.op) (h1 : v.op ≤ 9223372036854775807) (hk : formN v.op = 10) (ho : w.op = v.op) (hf : sameF 10 v w) : run (C u0l [.agg (cs_IG v), .agg (cs_IG w)]) H = some (.ok (.bool true) H) := by
  have hfd := fun K => u57 (H := K) h0 h1 hk
  simp only [show ((10 : Nat) : Int) = 10 from rfl] at hfd
  obtain ⟨b1, b2, b3⟩ := hv
  obtain ⟨d1, d2, d3⟩ := hw
  have hn := hf
  simp only [sameF] at hn
  rw [u0x]
  unfold cs_IG
  rw [b1, b2, b3, d1, d2, d3, ho]
  simp only [hn]
  simp +contextual -dsimp (disch := omega) only [↓goDown, goUp, cr, simprocAttr, u37, u2u, u2l, eql_s3, strip_Z, u08, u0e, low_Z, u09, hfd, u49, u06, u02, u00]
theorem uyk (hv : bare v) (hw : bare w) (l1 : v.labels.l.length < 2 ^ 62) (l2 : v.types.l.length < 2 ^ 62) (l3 : v.catches.l.length < 2 ^ 62) (h0 : -9223372036854775808 ≤ v.op) (h1 : v.op ≤ 9223372036854775807) (hk : formN v.op = 11) (ho : w.op = v.op) (hf : sameF 11 v w) : run (C u0l [.agg (cs_IG v), .agg (cs_IG w)]) H = some (.ok (.bool true) H) := by
  have hfd := fun K => u57 (H := K) h0 h1 hk
  simp only [show ((11 : Nat) : Int) = 11 from rfl] at hfd
  obtain ⟨b1, b2, b3⟩ := hv
  obtain ⟨d1, d2, d3⟩ := hw
  have hn := hf
  simp only [sameF] at hn
  rw [u0x]
  unfold cs_IG
  rw [b1, b2, b3, d1, d2, d3, ho]
  simp only [hn]
  simp +contextual -dsimp (disch := omega) only [↓goDown, goUp, cr, simprocAttr, u37, u2u, u2l, eql_s3, strip_Z, u08, u0e, low_Z, u09, hfd, u49, u06, u02, u00]
theorem uy5 (hv : bare v) (hw : bare w) (l1 : v.labels.l.length < 2 ^ 62) (l2 : v.types.l.length < 2 ^ 62) (l3 : v.catches.l.length < 2 ^ 62) (h0 : -9223372036854775808 ≤ v.op) (h1 : v.op ≤ 9223372036854775807) (hk : formN v.op = 12) (ho : w.op = v.op) (hf : sameF 12 v w) : run (C u0l [.agg (cs_IG v), .agg (cs_IG w)]) H = some (.ok (.bool true) H) := by
  have hfd := fun K => u57 (H := K) h0 h1 hk
  simp only [show ((12 : Nat) : Int) = 12 from rfl] at hfd
  obtain ⟨b1, b2, b3⟩ := hv
  obtain ⟨d1, d2, d3⟩ := hw
  have hn := hf
  simp only [sameF] at hn
  rw [u0x]
  unfold cs_IG
  rw [b1, b2, b3, d1, d2, d3, ho]
  simp only [hn]
  simp +contextual -dsimp (disch := omega) only [↓goDown, goUp, cr, simprocAttr, u37, u2u, u2l, eql_s3, strip_Z, u08, u0e, low_Z, u09, hfd, u49, u06, u02, u00]
theorem uxw (hv : bare v) (hw : bare w) (l1 : v.labels.l.length < 2 ^ 62) (l2 : v.types.l.length < 2 ^ 62) (l3 : v.catches.l.length < 2 ^ 62) (h0 : -9223372036854775808 ≤ v.op) (h1 : v.op ≤ 9223372036854775807) (hk : formN v.op = 13) (ho : w.op = v.op) (hf : sameF 13 v w) : run (C u0l [.agg (cs_IG v), .agg (cs_IG w)]) H = some (.ok (.bool true) H) := by
  have hfd := fun K => u57 (H := K) h0 h1 hk
  simp only [show ((13 : Nat) : Int) = 13 from rfl] at hfd
  obtain ⟨b1, b2, b3⟩ := hv
  obtain ⟨d1, d2, d3⟩ := hw
  have ht := hf
  simp only [sameF] at ht
  have hts := fun K => u8u (H := K) (z := v.types.z) (z' := w.types.z) l2
  rw [u0x]
  unfold cs_IG
  rw [b1, b2, b3, d1, d2, d3, ho]
  simp only [ht]
  simp +contextual -dsimp (disch := omega) only [↓goDown, goUp, cr, simprocAttr, u37, u2u, u2l, eql_s3, strip_Z, u08, u0e, low_Z, u09, hfd, u49, hts, u06, u02, u00]
theorem uxi (hv : bare v) (hw : bare w) (l1 : v.labels.l.length < 2 ^ 62) (l2 : v.types.l.length < 2 ^ 62) (l3 : v.catches.l.length < 2 ^ 62) (h0 : -9223372036854775808 ≤ v.op) (h1 : v.op ≤ 9223372036854775807) (hk : formN v.op = 14) (ho : w.op = v.op) (hf : sameF 14 v w) : run (C u0l [.agg (cs_IG v), .agg (cs_IG w)]) H = some (.ok (.bool true) H) := by
  have hfd := fun K => u57 (H := K) h0 h1 hk
  simp only [show ((14 : Nat) : Int) = 14 from rfl] at hfd
  obtain ⟨b1, b2, b3⟩ := hv
  obtain ⟨d1, d2, d3⟩ := hw
  have ht := hf
  simp only [sameF] at ht
  have hts := fun K => u8u (H := K) (z := v.types.z) (z' := w.types.z) l2
  rw [u0x]
  unfold cs_IG
  rw [b1, b2, b3, d1, d2, d3, ho]
  simp only [ht]
  simp +contextual -dsimp (disch := omega) only [↓goDown, goUp, cr, simprocAttr, u37, u2u, u2l, eql_s3, strip_Z, u08, u0e, low_Z, u09, hfd, u49, hts, u06, u02, u00]
theorem uxm (hv : bare v) (hw : bare w) (l1 : v.labels.l.length < 2 ^ 62) (l2 : v.types.l.length < 2 ^ 62) (l3 : v.catches.l.length < 2 ^ 62) (h0 : -9223372036854775808 ≤ v.op) (h1 : v.op ≤ 9223372036854775807) (hk : formN v.op = 15) (ho : w.op = v.op) (hf : sameF 15 v w) : run (C u0l [.agg (cs_IG v), .agg (cs_IG w)]) H = some (.ok (.bool true) H) := by
  have hfd := fun K => u57 (H := K) h0 h1 hk
  simp only [show ((15 : Nat) : Int) = 15 from rfl] at hfd
  obtain ⟨b1, b2, b3⟩ := hv
  obtain ⟨d1, d2, d3⟩ := hw
  obtain ⟨hx, ht⟩ := hf
  have hts := fun K => u8u (H := K) (z := v.types.z) (z' := w.types.z) l2
  rw [u0x]
  unfold cs_IG
  rw [b1, b2, b3, d1, d2, d3, ho]
  simp only [hx, ht]
  simp +contextual -dsimp (disch := omega) only [↓goDown, goUp, cr, simprocAttr, u37, u2u, u2l, eql_s3, strip_Z, u08, u0e, low_Z, u09, hfd, u49, hts, u06, u02, u00]
theorem uxv (hv : bare v) (hw : bare w) (l1 : v.labels.l.length < 2 ^ 62) (l2 : v.types.l.length < 2 ^ 62) (l3 : v.catches.l.length < 2 ^ 62) (h0 : -9223372036854775808 ≤ v.op) (h1 : v.op ≤ 9223372036854775807) (hk : formN v.op = 16) (ho : w.op = v.op) (hf : sameF 16 v w) : run (C u0l [.agg (cs_IG v), .agg (cs_IG w)]) H = some (.ok (.bool true) H) := by
  have hfd := fun K => u57 (H := K) h0 h1 hk
  simp only [show ((16 : Nat) : Int) = 16 from rfl] at hfd
  obtain ⟨b1, b2, b3⟩ := hv
  obtain ⟨d1, d2, d3⟩ := hw
  obtain ⟨hx, hn⟩ := hf
  rw [u0x]
  unfold cs_IG
  rw [b1, b2, b3, d1, d2, d3, ho]
  simp only [hx, hn]
  simp +contextual -dsimp (disch := omega) only [↓goDown, goUp, cr, simprocAttr, u37, u2u, u2l, eql_s3, strip_Z, u08, u0e, low_Z, u09, hfd, u49, u06, u02, u00]
theorem ux2 (hv : bare v) (hw : bare w) (l1 : v.labels.l.length < 2 ^ 62) (l2 : v.types.l.length < 2 ^ 62) (l3 : v.catches.l.length < 2 ^ 62) (h0 : -9223372036854775808 ≤ v.op) (h1 : v.op ≤ 9223372036854775807) (ho : w.op = v.op) (hf : sameF (formN v.op) v w) : run (C u0l [.agg (cs_IG v), .agg (cs_IG w)]) H = some (.ok (.bool true) H) := by
  have hl := ucd v.op
  generalize hk : formN v.op = k at hl hf
  have h : k = 0 ∨ k = 1 ∨ k = 2 ∨ k = 3 ∨ k = 4 ∨ k = 5 ∨ k = 6 ∨ k = 7 ∨ k = 8 ∨ k = 9 ∨ k = 10 ∨ k = 11 ∨ k = 12 ∨ k = 13 ∨ k = 14 ∨ k = 15 ∨ k = 16 := by omega
  rcases h with rfl | rfl | rfl | rfl | rfl | rfl | rfl | rfl | rfl | rfl | rfl | rfl | rfl | rfl | rfl | rfl | rfl
  · exact v00f hv hw l1 l2 l3 h0 h1 hk ho hf
  · exact uyu hv hw l1 l2 l3 h0 h1 hk ho hf
  · exact uzr hv hw l1 l2 l3 h0 h1 hk ho hf
  · exact uz4 hv hw l1 l2 l3 h0 h1 hk ho hf
  · exact v008 hv hw l1 l2 l3 h0 h1 hk ho hf
  · exact uz2 hv hw l1 l2 l3 h0 h1 hk ho hf
  · exact uz9 hv hw l1 l2 l3 h0 h1 hk ho hf
  · exact uzj hv hw l1 l2 l3 h0 h1 hk ho hf
  · exact uzb hv hw l1 l2 l3 h0 h1 hk ho hf
  · exact uzq hv hw l1 l2 l3 h0 h1 hk ho hf
  · exact uxs hv hw l1 l2 l3 h0 h1 hk ho hf
  · exact uyk hv hw l1 l2 l3 h0 h1 hk ho hf
  · exact uy5 hv hw l1 l2 l3 h0 h1 hk ho hf
  · exact uxw hv hw l1 l2 l3 h0 h1 hk ho hf
  · exact uxi hv hw l1 l2 l3 h0 h1 hk ho hf
  · exact uxm hv hw l1 l2 l3 h0 h1 hk ho hf
  · exact uxv hv hw l1 l2 l3 h0 h1 hk ho hf
end Go.Proofs.YthidcpkcfoldmaaGreat.Pi.Q
namespace Go.Proofs.YthidcpkcfoldmaaGreat.Pi.Q
open Go Go.Proofs.YthidcpkcfoldmaaGreat.Pi
attribute [local congr] ite_congr
variable {H : Heap} {b : List UInt8} {z : Bool} {v : II} {u : List UInt8}
theorem ur9 : strip (accB u) = LZ true 1 (bytes u) := by cases u <;> rfl
end Go.Proofs.YthidcpkcfoldmaaGreat.Pi.Q
namespace Go.Proofs.YthidcpkcfoldmaaGreat.Pi.Q
open Go Go.Proofs.YthidcpkcfoldmaaGreat.Pi
attribute [local congr] ite_congr
variable {c : Nat} {H : Heap} {L : List Box} {b : List UInt8} {f : Bool}
def ujs (l : List CH) : IW := iCat ([], !decide ((l.length : Int) ≤ 65536)) (iCat (putU l.length, false) (iAll iCatch l))
end Go.Proofs.YthidcpkcfoldmaaGreat.Pi.Q
namespace Go.Proofs.YthidcpkcfoldmaaGreat.Pi.Q
open Go Go.Proofs.YthidcpkcfoldmaaGreat.Pi
attribute [local congr] ite_congr
theorem ua5 {α : Type} {m : α → Nat} : ∀ (l : List α), (∀ a ∈ l, 1 ≤ m a) → l.length ≤ sumL m l
  | [], _ => Nat.le_refl _
  | a :: l, h => by
    have h1 := h a (by simp)
    have h2 := ua5 l (fun b hb => h b (by simp [hb]))
    simp only [List.length_cons, sumL]
    omega
theorem uu1 {n : Nat} {k : List UInt8 → KR} {g : WS → GR} (h : Sim n k g) (hn : n ≤ 140737488355328) : (resU (k [])).1.length ≤ n := by
  rcases h.1 [] (by simpa using hn) with ⟨a, h1, h2, h3⟩ | ⟨e, b, h1, h2, h3, h4⟩
  · rw [h2]; simpa [resU] using h1
  · rw [h3]; simp [resU]
theorem eH_len {h : Int} (hw : I64 h) : (eH h).1.length ≤ 10 := uu1 (ujz hw.1 hw.2) (by decide)
theorem eV_len {v : VT} (hw : I64 v.heap) : (eV v).1.length ≤ 11 := uu1 (unz hw) (by decide)
theorem eB_len {v : BK} (hw : I64 v.res.heap) (ht : I64 v.ty) : (eB v).1.length ≤ 11 := by
  unfold eB kBlock
  split
  · split
    · have := u9y 9 v.ty (by have := ht.1; omega) (by have := ht.2; omega)
      show (putS v.ty).length ≤ 11
      omega
    · simp [resU]
  · split
    · simp [resU]
    · split
      · unfold kPut
        split <;> simp [resU]
      · exact eV_len hw
theorem ubz {α : Type} {one : α → IW} {n : Nat} : ∀ l : List α, (∀ a ∈ l, (one a).1.length ≤ n) → (iAll one l).1.length ≤ n * l.length
  | [], _ => by simp [iAll]
  | a :: l, h => by
    have h1 := h a (by simp)
    have h2 := ubz l (fun d hd => h d (by simp [hd]))
    simp only [iAll, iCat, List.length_append, List.length_cons, Nat.mul_add, Nat.mul_one]
    omega
theorem ulv {α : Type} {one : α → IW} {x : α} : ∀ l : List α, iAll one (l ++ [x]) = iCat (iAll one l) (one x)
  | [] => by simp [iAll, iCat]
  | a :: l => by
    show iCat (one a) (iAll one (l ++ [x])) = iCat (iCat (one a) (iAll one l)) (one x)
    rw [ulv l]
    simp only [iCat, List.append_assoc, Bool.or_assoc]
theorem u81 {n : Int} (h : U32 n) : (putU n.toNat).length ≤ 10 := u82 (by have := h.2; omega)
def lens (v : IG) : Nat := v.labels.l.length + v.types.l.length + v.catches.l.length
theorem us9 {v : CH} (h : U32 v.tag ∧ U32 v.label) : (iCatch v).1.length ≤ 21 := by
  have h1 := u81 h.1
  have h2 := u81 h.2
  simp only [iCatch, iTag, List.length_append, List.length_cons, List.length_nil]
  split <;> (try simp only [List.length_nil]) <;> omega
theorem ufz {v : IG} (hv : v.w) {n : Int} : (iRefs v.types.l n).1.length ≤ 10 * v.types.l.length := by
  have := ubz (one := iRef) (n := 10) v.types.l (fun a ha => eH_len (hv.ty a ha))
  simp only [iRefs, iCat, List.nil_append]
  exact this
theorem uye {v : IG} (hv : v.w) : (iMem v.mem).1.length ≤ 40 := by
  have h1 := u81 hv.al
  have h2 := u81 hv.me
  have h3 : (putU v.mem.off.toNat).length ≤ 10 := u82 (by have := hv.off; omega)
  have h4 : (putU (v.mem.align + 64).toNat).length ≤ 10 := u82 (by have := hv.al.2; omega)
  simp only [iMem, List.length_append]
  split <;> (try simp only [List.length_append]) <;> omega
theorem ur0 {k : Nat} {n : Int} : (iConst k n).1.length ≤ 12 := by
  have h1 := u9y 9 (IntKind.i32.wrap n) (by have := uby n; omega) (by have := uby n; omega)
  have h2 := u9y 9 (IntKind.i64.wrap n) (by have := ubo n; omega) (by have := ubo n; omega)
  have h3 := uej 4 (IntKind.u32.wrap n)
  have h4 := uej 8 n
  simp only [iConst]
  split
  · omega
  · split
    · omega
    · split
      · omega
      · split
        · omega
        · simp
theorem ukf {v : IG} (hv : v.w) : (ujs v.catches.l).1.length ≤ 10 + 21 * v.catches.l.length := by
  have h1 := ubz (one := iCatch) (n := 21) v.catches.l (fun a ha => us9 (hv.ca a ha))
  have h2 : (putU v.catches.l.length).length ≤ 10 := u82 (by have := hv.lc; omega)
  simp only [ujs, iCat, List.nil_append, List.length_append]
  omega
theorem ur6 {v : IG} (hv : v.w) : (iTypes v).1.length ≤ 10 + 11 * v.types.l.length := by
  have h1 := ubz (one := iVal) (n := 11) v.types.l (fun a ha => eV_len (hv.ty a ha))
  have h2 : (putU v.types.l.length).length ≤ 10 := u82 (by have := hv.lt; omega)
  simp only [iTypes, iCat, List.nil_append, List.length_append]
  omega
theorem uxt {v : IG} (hv : v.w) : (iAll iNum v.labels.l).1.length ≤ 10 * v.labels.l.length :=
  ubz (one := iNum) (n := 10) v.labels.l (fun a ha => u81 (hv.lab a ha))
theorem uo3 {v : IG} (hv : v.w) : (ude v).1.length ≤ 20 + 10 * v.labels.l.length := by
  have h1 := uxt hv
  have h2 : (putU v.labels.l.length).length ≤ 10 := u82 (by have := hv.ll; omega)
  have h3 := u81 hv.x
  simp only [ude, ulv, iCat, iNum, List.nil_append, List.length_append]
  omega
theorem ut2 {v : IG} (hv : v.w) (k : Nat) : (iBody k v).1.length ≤ 60 + 21 * lens v := by
  have hx := u81 hv.x
  have hy := u81 hv.y
  have hn : (putU v.n.toNat).length ≤ 10 := u82 (by have := hv.n; omega)
  have hb := eB_len hv.bh hv.bt
  unfold lens
  unfold iBody
  split
  · simp
  · simp only [iEnt]; omega
  · have := ukf hv
    have e : iTry v = iCat (iEnt (eB v.block)) (ujs v.catches.l) := rfl
    rw [e]
    simp only [iCat, iEnt, List.length_append]
    omega
  · simp only; omega
  · simp only [List.length_append]; omega
  · have := uo3 hv; omega
  · have := ur6 hv; omega
  · have := uye hv; omega
  · have := ufz hv (n := 1)
    simp only [iCat, List.append_nil]; omega
  · have := ufz hv (n := 1)
    simp only [iCat, List.append_nil]; omega
  · have := ufz hv (n := 2)
    simp only [iCasts, iCat, List.length_append, List.length_cons, List.length_nil]; omega
  · simp only [List.length_append]; omega
  · exact Nat.le_trans ur0 (by omega)
theorem v00d {op : Int} : (iOp op).1.length ≤ 11 := by
  have : (putU (op % 256).toNat).length ≤ 10 := u82 (by omega)
  unfold iOp
  simp only
  split <;> simp <;> omega
end Go.Proofs.YthidcpkcfoldmaaGreat.Pi.Q
namespace Go.Proofs.YthidcpkcfoldmaaGreat.Pi.Q
open Go Go.Proofs.YthidcpkcfoldmaaGreat.Pi
variable {b : List UInt8} {t : TS} {op k : Nat} {v : IG} {u : List UInt8}
theorem iEnt_H {h : Int} (e : iEnt (eH h) = (u, false)) : wHeap h = .ok u := by
  unfold iEnt at e
  rw [eH_w] at e
  cases hw : wHeap h with
  | ok x => rw [hw] at e; simp only [Prod.mk.injEq] at e; rw [e.1]
  | err x => rw [hw] at e; simp at e
theorem iEnt_V {r : VT} (e : iVal r = (u, false)) : wVal r = .ok u := by
  unfold iVal at e
  rw [eV_w] at e
  cases hw : wVal r with
  | ok x => rw [hw] at e; simp only [Prod.mk.injEq] at e; rw [e.1]
  | err x => rw [hw] at e; simp at e
theorem ut1 {r : BK} (e : iEnt (eB r) = (u, false)) : wBlock r = .ok u := by
  unfold iEnt at e
  rw [eB_w] at e
  cases hw : wBlock r with
  | ok x => rw [hw] at e; simp only [Prod.mk.injEq] at e; rw [e.1]
  | err x => rw [hw] at e; simp at e
theorem iRef_H {r : VT} (e : iRef r = (u, false)) : r.num = 5 ∧ wHeap r.heap = .ok u := by
  unfold iRef at e
  simp only [Prod.mk.injEq, Bool.or_eq_false_iff, Bool.not_eq_false', beq_iff_eq] at e
  refine ⟨e.2.1, iEnt_H ?_⟩
  unfold iEnt
  rw [e.1, e.2.2]
  rfl
theorem u4g {x y : IW} (h : iCat x y = (u, false)) : x.2 = false ∧ y.2 = false ∧ u = x.1 ++ y.1 := by
  unfold iCat at h
  simp only [Prod.mk.injEq, Bool.or_eq_false_iff] at h
  exact ⟨h.2.1, h.2.2, h.1.symm⟩
theorem u69 {x y : IW} (h : (iCat x y).2 = false) : x.2 = false ∧ y.2 = false := by
  unfold iCat at h
  simpa using h
theorem uc4 {α β : Type} {w : β → List UInt8 → Prop} {one : α → IW} {g : α → β} : ∀ (l : List α) (y : List UInt8), (∀ a ∈ l, ∀ u, one a = (u, false) → w (g a) u) → iAll one l = (y, false) → AllW w (l.map g) y
  | [], y, h, e => by cases e; rfl
  | a :: l, y, h, e => by
    rw [iAll] at e
    obtain ⟨e1, e2, rfl⟩ := u4g e
    exact ⟨(one a).1, (iAll one l).1, h a (by simp) _ (Prod.ext rfl e1), uc4 l _ (fun x hx => h x (by simp [hx])) (Prod.ext rfl e2), rfl⟩
theorem uoy {α : Type} {one : α → IW} {a : α} : ∀ (l : List α) (y : List UInt8), iAll one (l ++ [a]) = (y, false) → ∃ x, iAll one l = (x, false) ∧ (one a).2 = false ∧ y = x ++ (one a).1
  | [], y, h => by
    rw [List.nil_append, iAll, iAll] at h
    obtain ⟨e1, e2, rfl⟩ := u4g h
    exact ⟨[], rfl, e1, by simp⟩
  | v :: l, y, h => by
    rw [List.cons_append, iAll] at h
    obtain ⟨e1, e2, rfl⟩ := u4g h
    obtain ⟨x, h1, h2, h3⟩ := uoy (a := a) l _ (Prod.ext rfl e2)
    refine ⟨(one v).1 ++ x, ?_, h2, ?_⟩
    · rw [iAll, h1]
      unfold iCat
      rw [e1]
      rfl
    · exact (congrArg (fun z => (one v).1 ++ z) h3).trans (List.append_assoc _ _ _).symm
def toCN (c : CH) : CN := (c.kind.toNat, c.tag.toNat, c.label.toNat)
theorem ugb {c : CH} (hc : U32 c.tag ∧ U32 c.label) (e : iCatch c = (u, false)) : wCl (toCN c) u ∧ (⟨((toCN c).1 : Int), ((toCN c).2.1 : Int), ((toCN c).2.2 : Int)⟩ : CH) = c := by
  obtain ⟨k, g, l⟩ := c
  unfold iCatch u6t at e
  simp only [Prod.mk.injEq, Bool.not_eq_false', Bool.and_eq_true, decide_eq_true_eq, Bool.or_eq_true, beq_iff_eq] at e
  obtain ⟨rfl, h1, h2, h3⟩ := e
  obtain ⟨⟨t1, t2⟩, l1, l2⟩ := hc
  simp only at t1 t2 l1 l2
  obtain ⟨n, rfl⟩ := Int.eq_ofNat_of_zero_le h1
  obtain ⟨g, rfl⟩ := Int.eq_ofNat_of_zero_le t1
  obtain ⟨l, rfl⟩ := Int.eq_ofNat_of_zero_le l1
  unfold toCN
  simp only [Int.toNat_natCast]
  refine ⟨⟨by simp only; omega, by simp only; omega, by simp only; omega, fun h => by simp only at h ⊢; omega, ?_⟩, trivial⟩
  unfold iTag tagU
  simp only [Int.toNat_natCast]
  rw [ujc (by omega)]
  by_cases hk : n < 2
  · rw [if_pos (by omega), if_pos hk]
  · rw [if_neg (by omega), if_neg hk]
def iHead (v : IG) : IG := { v with body := ⟨true, 0, []⟩, els := ⟨true, 0, []⟩, hasElse := false }
theorem ug8 {α : Type} {f : α → α} : ∀ (l : List α), (∀ a ∈ l, f a = a) → l.map f = l
  | [], h => rfl
  | a :: l, h => by rw [List.map_cons, h a (by simp), ug8 l (fun x hx => h x (by simp [hx]))]
theorem ux9 {l : List CH} (hl : ∀ a ∈ l, U32 a.tag ∧ U32 a.label) : ∀ (y : List UInt8), iAll iCatch l = (y, false) → AllW wCl (l.map toCN) y ∧ (l.map toCN).map (fun c => (⟨(c.1 : Int), (c.2.1 : Int), (c.2.2 : Int)⟩ : CH)) = l := by
  intro y h
  refine ⟨uc4 l y (fun a ha u e => (ugb (hl a ha) e).1) h, ?_⟩
  rw [List.map_map]
  have : ∀ a ∈ l, (iCatch a).2 = false := by
    clear hl
    induction l generalizing y with
    | nil => intro a ha; cases ha
    | cons x l ih =>
      rw [iAll] at h
      obtain ⟨e1, e2, rfl⟩ := u4g h
      intro a ha
      rcases List.mem_cons.mp ha with rfl | ha
      · exact e1
      · exact ih _ (Prod.ext rfl e2) a ha
  exact ug8 l fun a ha => (ugb (hl a ha) (Prod.ext rfl (this a ha))).2
theorem ugn {a d : VT} : castC [a, d] = (if a.nul = true then 1 else 0) + (if d.nul = true then 2 else 0) := by simp [castC]
theorem uvh {x : List UInt8} (hv : v.w) (hk : k ≠ 0) (hk' : k < 17) (he : iBody k v = (x, false)) : ∃ v' : II, v'.op = v.op ∧ wBody k v' x ∧ sameF k v v'.ig := by
  have h : k = 1 ∨ k = 2 ∨ k = 3 ∨ k = 4 ∨ k = 5 ∨ k = 6 ∨ k = 7 ∨ k = 8 ∨ k = 9 ∨ k = 10 ∨ k = 11 ∨ k = 12 ∨ k = 13 ∨ k = 14 ∨ k = 15 ∨ k = 16 := by omega
  obtain ⟨x0, x1⟩ := hv.x
  obtain ⟨y0, y1⟩ := hv.y
  obtain ⟨n0, n1⟩ := hv.n
  rcases h with rfl | rfl | rfl | rfl | rfl | rfl | rfl | rfl | rfl | rfl | rfl | rfl | rfl | rfl | rfl | rfl <;> simp only [iBody] at he <;> simp only [wBody, sameF]
  · refine ⟨{ op := v.op }, rfl, ⟨rfl, ?_⟩, trivial⟩
    unfold iConst at he
    simp at he
    exact he
  · exact ⟨{ op := v.op, blk := v.block }, rfl, ⟨_, rfl, ut1 he⟩, rfl⟩
  · unfold iTry at he
    obtain ⟨e1, e2, rfl⟩ := u4g he
    obtain ⟨e3, e4⟩ := u69 e2
    obtain ⟨e6, e7⟩ := u69 e4
    have hr := ut1 (r := v.block) (Prod.ext rfl e1)
    obtain ⟨h1, h2⟩ := ux9 hv.ca _ (Prod.ext rfl e7)
    simp only [Bool.not_eq_false', decide_eq_true_eq] at e3
    refine ⟨{ op := v.op, blk := v.block, ca := v.catches.l.map toCN }, rfl, ⟨_, _, _, _, rfl, hr, by rw [List.length_map]; omega, h1, ?_⟩, rfl, h2⟩
    rw [List.length_map]
    simp only [iCat, List.nil_append]
  · simp only [Prod.mk.injEq, and_true] at he
    exact ⟨{ op := v.op, x := v.x }, rfl, ⟨v.x.toNat, by rw [Int.toNat_of_nonneg x0], by omega, he.symm⟩, rfl⟩
  · simp only [Prod.mk.injEq, and_true] at he
    exact ⟨{ op := v.op, x := v.x, y := v.y }, rfl, ⟨v.x.toNat, v.y.toNat, by rw [Int.toNat_of_nonneg x0, Int.toNat_of_nonneg y0], by omega, by omega, he.symm⟩, rfl, rfl⟩
  · unfold ude at he
    obtain ⟨e1, e2, rfl⟩ := u4g he
    obtain ⟨e3, e4⟩ := u69 e2
    obtain ⟨y, g1, g2, g3⟩ := uoy (one := iNum) v.labels.l _ (Prod.ext rfl e4)
    simp only [Bool.not_eq_false', decide_eq_true_eq] at e1
    have hb := uc4 (w := wU 32) (g := Int.toNat) v.labels.l y (fun a ha u e => by
      have := hv.lab a ha
      unfold iNum at e
      simp only [Prod.mk.injEq, and_true] at e
      exact ⟨by unfold U32 at this; omega, e.symm⟩) g1
    refine ⟨{ op := v.op, x := v.x, la := v.labels.l.map Int.toNat }, rfl, ⟨v.x.toNat, _, y, by rw [Int.toNat_of_nonneg x0], by rw [List.length_map]; omega, hb, by omega, ?_⟩, rfl, ?_⟩
    · rw [List.length_map]
      simp only [iCat, List.nil_append]
      exact congrArg (fun z => putU v.labels.l.length ++ z) g3
    · show (v.labels.l.map Int.toNat).map _ = _
      rw [List.map_map]
      exact ug8 _ fun a ha => by have := (hv.lab a ha).1; show ((a.toNat : Nat) : Int) = a; omega
  · unfold iTypes at he
    obtain ⟨e1, e2, rfl⟩ := u4g he
    obtain ⟨e3, e4⟩ := u69 e2
    simp only [Bool.not_eq_false', decide_eq_true_eq] at e1
    have hb := uc4 (w := wV) (g := fun a => a) v.types.l _ (fun a ha u e => iEnt_V e) (Prod.ext rfl e4 : iAll iVal v.types.l = ((iAll iVal v.types.l).1, false))
    rw [List.map_id'] at hb
    refine ⟨{ op := v.op, ty := v.types.l }, rfl, ⟨_, _, rfl, by omega, hb, ?_⟩, rfl⟩
    simp only [iCat, List.nil_append]
  · unfold iMem at he
    obtain ⟨a0, a1⟩ := hv.al
    obtain ⟨m0, m1⟩ := hv.me
    obtain ⟨o0, o1⟩ := hv.off
    simp only [Prod.mk.injEq, Bool.not_eq_false', decide_eq_true_eq] at he
    obtain ⟨rfl, ha⟩ := he
    refine ⟨{ op := v.op, al := v.mem.align, me := v.mem.mem, off := v.mem.off }, rfl, ⟨v.mem.align.toNat, v.mem.mem.toNat, v.mem.off.toNat, by rw [Int.toNat_of_nonneg a0, Int.toNat_of_nonneg m0, Int.toNat_of_nonneg o0], by omega, by omega, by omega, ?_⟩, rfl⟩
    have e : (v.mem.align + 64).toNat = v.mem.align.toNat + 64 := by omega
    by_cases hm : v.mem.mem = 0
    · rw [if_pos hm, if_pos (by omega)]
    · rw [if_neg hm, if_neg (by omega), e]
  · unfold iConst at he
    simp at he
    obtain ⟨rfl, hn⟩ := he
    have r := uby v.n
    refine ⟨{ op := v.op, n := v.n }, rfl, ⟨IntKind.i32.wrap v.n, ?_, by simp only [Nat.reduceSub, Nat.reducePow]; omega, by simp only [Nat.reduceSub, Nat.reducePow]; omega, rfl⟩, rfl⟩
    have e0 : ∀ n, IntKind.u64.wrap n = n % 18446744073709551616 := fun n => by simp only [IntKind.wrap, IntKind.signed, IntKind.bits]; simp
    have e : IntKind.u64.wrap (IntKind.u32.wrap (IntKind.i32.wrap (IntKind.i32.wrap v.n))) = v.n := by
      rw [uzv, e0, IntKind.wrap_i32]
      omega
    rw [e]
  · unfold iConst at he
    simp at he
    subst he
    have r := ubo v.n
    refine ⟨{ op := v.op, n := v.n }, rfl, ⟨IntKind.i64.wrap v.n, ?_, by simp only [Nat.reduceSub, Nat.reducePow]; omega, by simp only [Nat.reduceSub, Nat.reducePow]; omega, rfl⟩, rfl⟩
    have e0 : ∀ n, IntKind.u64.wrap n = n % 18446744073709551616 := fun n => by simp only [IntKind.wrap, IntKind.signed, IntKind.bits]; simp
    have e : IntKind.u64.wrap (IntKind.i64.wrap v.n) = v.n := by
      rw [e0, IntKind.wrap_i64]
      omega
    rw [e]
  · unfold iConst at he
    simp at he
    obtain ⟨rfl, hn⟩ := he
    refine ⟨{ op := v.op, n := v.n }, rfl, ⟨v.n.toNat, by rw [Int.toNat_of_nonneg n0], by simp only [Nat.reducePow]; omega, ?_⟩, rfl⟩
    rw [w_u32 (by omega), Int.toNat_of_nonneg n0]
  · unfold iConst at he
    simp at he
    subst he
    refine ⟨{ op := v.op, n := v.n }, rfl, ⟨v.n.toNat, by rw [Int.toNat_of_nonneg n0], by simp only [Nat.reducePow]; omega, ?_⟩, rfl⟩
    rw [Int.toNat_of_nonneg n0]
  · obtain ⟨e1, e2, rfl⟩ := u4g he
    unfold iRefs at e1 ⊢
    obtain ⟨e3, e4⟩ := u69 e1
    simp only [Bool.not_eq_false', beq_iff_eq] at e3 e2
    match hl : v.types.l, e3, e2, e4 with
    | [a], e3, e2, e4 =>
      rw [iAll, iAll] at e4
      obtain ⟨f1, _⟩ := u69 e4
      obtain ⟨g1, g2⟩ := iRef_H (Prod.ext rfl f1 : iRef a = ((iRef a).1, false))
      have ea : a = ⟨5, true, a.heap⟩ := by
        obtain ⟨x, y, z⟩ := a
        unfold ud4 at e2
        simp only at g1 e2
        rw [g1, e2]
      refine ⟨{ op := v.op, ty := v.types.l }, rfl, ⟨a.heap, by rw [hl, ← ea], ?_⟩, hl.symm ▸ hl⟩
      simp only [iAll, iCat, List.nil_append, List.append_nil]
      exact g2
    | [], e3, e2, e4 => simp at e3
    | a :: d :: r, e3, e2, e4 => simp at e3; omega
  · obtain ⟨e1, e2, rfl⟩ := u4g he
    unfold iRefs at e1 ⊢
    obtain ⟨e3, e4⟩ := u69 e1
    simp only [Bool.not_eq_false', beq_iff_eq] at e3 e2
    match hl : v.types.l, e3, e2, e4 with
    | [a], e3, e2, e4 =>
      rw [iAll, iAll] at e4
      obtain ⟨f1, _⟩ := u69 e4
      obtain ⟨g1, g2⟩ := iRef_H (Prod.ext rfl f1 : iRef a = ((iRef a).1, false))
      have ea : a = ⟨5, (v.op % 2 == 1), a.heap⟩ := by
        obtain ⟨x, y, z⟩ := a
        unfold ucj at e2
        simp only [beq_iff_eq] at g1 e2
        rw [g1, e2]
      refine ⟨{ op := v.op, ty := v.types.l }, rfl, ⟨a.heap, by rw [hl]; congr 2, ?_⟩, hl.symm ▸ hl⟩
      simp only [iAll, iCat, List.nil_append, List.append_nil]
      exact g2
    | [], e3, e2, e4 => simp at e3
    | a :: d :: r, e3, e2, e4 => simp at e3; omega
  · unfold iCasts at he
    obtain ⟨e1, e2, rfl⟩ := u4g he
    obtain ⟨e3, e4⟩ := u69 e2
    unfold iRefs at e4 ⊢
    obtain ⟨e6, e7⟩ := u69 e4
    simp only [Bool.not_eq_false', beq_iff_eq] at e6
    match hl : v.types.l, e6, e7 with
    | [a, d], e6, e7 =>
      rw [iAll, iAll, iAll] at e7
      obtain ⟨f1, f3⟩ := u69 e7
      obtain ⟨f4, _⟩ := u69 f3
      obtain ⟨g1, g2⟩ := iRef_H (Prod.ext rfl f1 : iRef a = ((iRef a).1, false))
      obtain ⟨g3, g4⟩ := iRef_H (Prod.ext rfl f4 : iRef d = ((iRef d).1, false))
      obtain ⟨n1, l1, h1⟩ := a
      obtain ⟨n2, l2, h2⟩ := d
      simp only at g1 g3
      subst g1 g3
      refine ⟨{ op := v.op, x := v.x, ty := v.types.l }, rfl, ⟨(castC v.types.l).toNat, v.x.toNat, h1, h2, _, _, ?_, ?_, by omega, g2, g4, ?_⟩, rfl, hl.symm ▸ hl⟩
      · rw [hl, Int.toNat_of_nonneg x0, ugn]
        cases l1 <;> cases l2 <;> simp
      · rw [hl, ugn]
        cases l1 <;> cases l2 <;> simp
      · rw [hl, ugn]
        simp only [iAll, iCat, List.nil_append, List.append_nil]
        cases l1 <;> cases l2 <;> rfl
    | [], e6, e7 => simp at e6
    | [a], e6, e7 => simp at e6
    | a :: d :: c :: r, e6, e7 => simp at e6; omega
  · simp only [Prod.mk.injEq, Bool.not_eq_false', decide_eq_true_eq] at he
    exact ⟨{ op := v.op, x := v.x, n := v.n }, rfl, ⟨v.x.toNat, v.n.toNat, by rw [Int.toNat_of_nonneg x0, Int.toNat_of_nonneg n0], by omega, by omega, he.1.symm⟩, rfl, rfl⟩
theorem uri (hv : v.w) (h : progW v = (u, false)) : ∃ v' : II, wInstr v' u ∧ v'.op = v.op ∧ sameF (formN v.op) v v'.ig := by
  unfold progW at h
  obtain ⟨e1, e2, rfl⟩ := u4g h
  have h0 : formN v.op ≠ 0 := fun g => by rw [g] at e2; cases e2
  obtain ⟨v', h1, h2, h3⟩ := uvh hv h0 (ucd v.op) (Prod.ext rfl e2 : iBody _ v = (_, false))
  exact ⟨v', ⟨_, by rw [h1]; exact h0, by rw [h1]; exact h2, by rw [h1]⟩, h1, h3⟩
end Go.Proofs.YthidcpkcfoldmaaGreat.Pi.Q
namespace Go.Proofs.YthidcpkcfoldmaaGreat.Pi.Q
open Go Go.Proofs.YthidcpkcfoldmaaGreat.Pi
attribute [local congr] ite_congr
variable {H : Heap} {v : IG} {u f r : List UInt8} {zf zr : Bool}
abbrev oB (u : List UInt8) : PV := .slice true false 1 (bytes u)
theorem ap_O {x f : List UInt8} {z : Bool} {K : Heap} (h : x.length + f.length ≤ 140737488355328) : run (ap true 1 1 (oB x) (LZ z 1 (bytes f))) K = some (.ok (oB (x ++ f)) K) := by
  have key : (bytes x).length + (bytes f).length = x.length + f.length := by simp [bytes]
  have ht : tail 1 (LZ z 1 (bytes f)) = some (bytes f) := by
    cases f with
    | nil => cases z <;> rfl
    | cons a l => rfl
  unfold run ap
  simp only [ht, cond_false, Bool.true_and, beq_self_eq_true, growB, key, Nat.max_self, Nat.mul_one]
  rw [decide_eq_true h]
  simp only [cond_true]
  show some (Out.ok (PV.slice true false 1 (List.map byt x ++ List.map byt f)) K) = _
  rw [← List.map_append]
theorem bsR_e {K : Heap} : bsR true none [] K = some (.ok (oB []) K) := nrfl rfl
theorem uzo : strip (oB u) = BS false u := nrfl rfl
theorem uzz : isTup (oB u) = false := nrfl rfl
theorem uux : bare (iHead v) := ⟨rfl, rfl, rfl⟩
theorem uyt {w : II} : bare w.ig := ⟨rfl, rfl, rfl⟩
theorem ux8 (hv : v.w) (hl : lens v ≤ 1048576) : (progW v).1.length ≤ 1099511627776 := by
  have h1 := ut2 hv (formN v.op)
  have h2 := v00d (op := v.op)
  show ((iOp v.op).1 ++ (iBody (formN v.op) v).1).length ≤ _
  rw [List.length_append]
  omega
theorem urp (hv : v.w) (hl : lens v ≤ 1048576) (hf : f.length ≤ 1048576) (hr : r.length ≤ 1048576) : run (C u4d [.agg (cs_IG v), LZ zf 1 (bytes f), LZ zr 1 (bytes r)]) H = some (.ok (.bool true) H) := by
  have hw := fun K => usk (H := K)
  have hlen := ux8 hv hl
  have hwr := fun K => uup (H := K) hv (by omega)
  rw [u89]
  unfold wOut at hwr
  by_cases hb : (progW v).2 = true
  · simp only [if_pos hb] at hwr
    unfold cs_IG at *
    simp +contextual -dsimp (disch := omega) only [↓goDown, goUp, cr, simprocAttr, hwr, hw, strip_Z, u08, u0e, low_Z, u09]
  · simp only [if_neg hb] at hwr
    obtain ⟨v', h1, h2, h3⟩ := uri (u := (progW v).1) hv (Prod.ext rfl (by simpa using hb))
    generalize (progW v).1 = u at hwr hlen h1
    have ha : At (f ++ u ++ r) f.length u := at_mid
    have hg := usc h1 ha
    have hin := fun K => uwl (H := K) (z := false) (b := f ++ u ++ r) (at_ := f.length) (by simp only [List.length_append]; omega) (by simp only [List.length_append]; omega)
    simp only [resI_I, hg, if_true] at hin
    obtain ⟨x, h4, h5, h6⟩ := h1
    obtain ⟨g1, g2, g3⟩ := upl (op := v.op) (by rw [← h2]; exact h4)
    have hs := fun K => ux2 (H := K) (v := iHead v) (w := v'.ig) uux uyt (by have := hv.ll; show v.labels.l.length < _; omega) (by have := hv.lt; show v.types.l.length < _; omega) (by have := hv.lc; show v.catches.l.length < _; omega) (by show _ ≤ v.op; omega) (by show v.op ≤ _; omega) h2 h3
    simp only [← v004] at hs
    have e1 : ((f.length : Int) + (u.length : Int)) = ((f.length + u.length : Nat) : Int) := rfl
    have w1 : IntKind.i64.wrap ((f.length + u.length : Nat) : Int) = ((f.length + u.length : Nat) : Int) := w_i64 (by omega)
    have a1 := fun K => ap_O (x := []) (f := f) (z := zf) (K := K) (by simp only [List.length_nil]; omega)
    have a2 := fun K => ap_O (x := f) (f := u) (z := true) (K := K) (by omega)
    have a3 := fun K => ap_O (x := f ++ u) (f := r) (z := zr) (K := K) (by simp only [List.length_append]; omega)
    rw [List.nil_append] at a1
    unfold cs_IG iHead csII at *
    simp only at hs
    simp +contextual -dsimp (disch := omega) only [↓goDown, goUp, cr, simprocAttr, hwr, hw, bsR_e, a1, a2, a3, uzo, uzz, ur9, uiz, strip_Z, u0y, u8d, ln_Z, List.length_map, hin, e1, w1, u37, hs, u08, u0e, low_Z, u09, uza, uxo, v000, low_P, uyf, uzt]
end Go.Proofs.YthidcpkcfoldmaaGreat.Pi.Q
namespace Go.Proofs.YthidcpkcfoldmaaGreat.Pi.Q
open Go Go.Proofs.YthidcpkcfoldmaaGreat.Pi
def encU8 (n : Int) : PV := .int .u8 n
def toU8 (l : List Int) : List UInt8 := l.map fun n => UInt8.ofNat n.toNat
theorem umw : ∀ {l : List Int}, (∀ a ∈ l, (Lit.int .u8 a).wf = true) → l.map encU8 = bytes (toU8 l)
  | [], h => rfl
  | a :: l, h => by
    have ha : 0 ≤ a ∧ a ≤ 255 := by
      have := h a (by simp)
      simp [Lit.wf, IntKind.min, IntKind.max, IntKind.bits, IntKind.signed] at this
      omega
    have ih := umw (l := l) (fun x hx => h x (by simp [hx]))
    unfold toU8 at ih ⊢
    rw [List.map_cons, ih, List.map_cons]
    show encU8 a :: _ = byt (UInt8.ofNat a.toNat) :: _
    congr 1
    unfold byt encU8
    rw [u1p (by omega)]
    congr 1
    omega
theorem ok_w {v : IG} (h : ok_IG v) (hm : ms_IG v ≤ 1048576) : v.w ∧ lens v ≤ 1048576 := by
  have u32 : ∀ {n : Int}, (Lit.int .u32 n).wf = true → U32 n := fun h => by
    simp [Lit.wf, IntKind.min, IntKind.max, IntKind.bits, IntKind.signed] at h
    exact ⟨by omega, by omega⟩
  have i64 : ∀ {n : Int}, (Lit.int .i64 n).wf = true → I64 n := fun h => wf_i64 h
  obtain ⟨o1, o2, o3, o4, o5, o6, _, _, _, o7, o8, o9, _⟩ := h
  obtain ⟨m1, m2, m3, _⟩ := o5
  obtain ⟨k1, k2, _⟩ := o6
  have s1 : v.labels.l.length ≤ sumL (fun _ : Int => 1) v.labels.l := ua5 v.labels.l (fun _ _ => Nat.le_refl _)
  have s2 : v.types.l.length ≤ sumL (fun a => ms_V a) v.types.l := ua5 v.types.l (fun a _ => by unfold ms_V; omega)
  have s3 : v.catches.l.length ≤ sumL (fun a => ms_CH a) v.catches.l := ua5 v.catches.l (fun a _ => by unfold ms_CH; omega)
  unfold ms_IG at hm
  exact ⟨⟨i64 o1, u32 o2, u32 o3, wf_u64 o4, u32 m1, u32 m2, wf_u64 m3, i64 k1, i64 k2.2.2.1, fun a ha => u32 (o7 a ha), fun a ha => i64 (o8 a ha).2.2.1, fun a ha => ⟨u32 (o9 a ha).2.1, u32 (o9 a ha).2.2.1⟩, by omega, by omega, by omega⟩, by unfold lens; omega⟩
theorem iback_of {v : IG} {x y : GL Int} {H : Heap} (h : ok_IG v) (hx : ∀ a ∈ x.l, (Lit.int .u8 a).wf = true) (hy : ∀ a ∈ y.l, (Lit.int .u8 a).wf = true) (m0 : ms_IG v ≤ 1048576) (m1 : sumL (fun a : Int => 1) x.l ≤ 1048576) (m2 : sumL (fun a : Int => 1) y.l ≤ 1048576) :
    run (C u4d [.agg (cs_IG v), LZ x.z 1 (x.l.map encU8), LZ y.z 1 (y.l.map encU8)]) H = some (.ok (.bool true) H) := by
  obtain ⟨h1, h2⟩ := ok_w h m0
  have s1 : x.l.length ≤ sumL (fun _ : Int => 1) x.l := ua5 x.l (fun _ _ => Nat.le_refl _)
  have s2 : y.l.length ≤ sumL (fun _ : Int => 1) y.l := ua5 y.l (fun _ _ => Nat.le_refl _)
  rw [umw hx, umw hy]
  exact urp h1 h2 (by unfold toU8; rw [List.length_map]; omega) (by unfold toU8; rw [List.length_map]; omega)
end Go.Proofs.YthidcpkcfoldmaaGreat.Pi.Q
