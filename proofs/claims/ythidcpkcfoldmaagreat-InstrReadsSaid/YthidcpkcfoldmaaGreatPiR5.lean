/- What the law rests on, part 6 of 6: a reading of the program's code over told data, and what it comes to. -/
import Derived.Test.YthidcpkcfoldmaaGreatPiR4
set_option linter.unusedVariables false
set_option linter.unusedSimpArgs false
set_option maxRecDepth 100000
namespace Go.Proofs.YthidcpkcfoldmaaGreat.Pi.Q
open Go Go.Proofs.YthidcpkcfoldmaaGreat.Pi
attribute [local congr] ite_congr
variable {c : Nat} {H : Heap} {L : List Box} {b : List UInt8} {z : Bool} {at_ : Nat}
def zeroI : List PV := [.int .i64 0, .int .u32 0, .int .u32 0, .int .u64 0, .int .u32 0, .int .u32 0, .int .u64 0, .int .i64 0, .int .i64 0, .bool false, .int .i64 0, .slice false true 0 [], .slice false true 0 [], .bool false, .slice false true 0 [], .slice false true 0 [], .slice false true 0 []]
def resI (r : List PV × TS) : PV := if r.2.why = 0 then .tup [.agg (r.1.map stripC), .int .i64 r.2.p, .int .i64 0] else .tup [.agg zeroI, .int .i64 r.2.bad, .int .i64 r.2.why]
def ufq : List PV := [.fn u21 [] [], .fn u21 [] [], .fn u3f [] [], .fn u3d [] [], .fn u4f [] [], .fn u5q [] [], .fn u3e [] [], .fn u2y [] [], .fn u49 [] [], .fn u5b [] [], .fn u5c [] [], .fn u5a [] [], .fn u5d [] [], .fn u4v [] [], .fn u4w [] [], .fn u44 [] [], .fn u5o [] []]
theorem uiq : run (C u9a []) H = some (.ok (.agg ufq) H) := by
  rw [ufe]
  unfold ufq
  simp +contextual -dsimp (disch := omega) only [↓goDown, goUp, cr, simprocAttr]
theorem u6p {sz : Nat} {l : List PV} : isCell (stripC (accP sz l)) = true := by cases l <;> rfl
theorem u7z {sz : Nat} {l : List PV} : (stripC (accP sz l)).cells = [stripC (accP sz l)] := by cases l <;> rfl
theorem low_sa {sz n : Nat} {l : List PV} : (stripC (accP sz l)).low n = true := by cases l <;> simp [accP, stripC, u7q]
theorem u4t {sz : Nat} {l : List PV} : stripC (stripC (accP sz l)) = stripC (accP sz l) := by cases l <;> rfl
theorem St_2' {x y : Box} : hadd H [x, y] = St (hadd H [x, .dead]) (List.length H + 1) y [] := by
  unfold St hadd hset
  rw [List.append_nil, List.set_append_right _ _ (by omega)]
  simp
theorem use_2' {m : M PV} {x y w : Box} {v : PV} (h : runK (List.length H + 1) m (St (hadd H [x, .dead]) (List.length H + 1) y []) = some (.ok v (St (hadd H [x, .dead]) (List.length H + 1) w []))) : run m (hadd H [x, y]) = some (.ok v (hadd H [x, w])) := by
  rw [← St_2', ← St_2'] at h
  exact uhl h
theorem new2' {x y : Box} : List.length H + 1 < List.length (hadd H [x, y]) := by rw [u7l]; simp
def goodR (v : PV) : Prop := (isCell v = true ∧ v.cells = [v] ∧ (∀ n, v.low n = true)) ∧ isCell (stripC v) = true ∧ (stripC v).cells = [stripC v] ∧ (∀ n, (stripC v).low n = true) ∧ stripC (stripC v) = stripC v
theorem uhu {k : IntKind} {n : Int} : goodR (.int k n) := ⟨⟨rfl, rfl, fun n => u8b⟩, rfl, rfl, fun n => u8b, rfl⟩
theorem usa {x : Bool} : goodR (.bool x) := ⟨⟨rfl, rfl, fun n => ubu⟩, rfl, rfl, fun n => ubu, rfl⟩
theorem ut5 : goodR (.slice false true 0 []) := ⟨⟨rfl, rfl, fun n => u7q⟩, rfl, rfl, fun n => u7q, rfl⟩
theorem usw {sz : Nat} {l : List PV} : goodR (accP sz l) := ⟨⟨u2l, u3m, fun n => low_Pa⟩, u6p, u7z, fun n => low_sa, u4t⟩
theorem uvc {n : Nat} {l : List Nat} {t : TS} : goodR (tabM b n l t (.int .u32 0)) := by unfold tabM; split <;> exact uhu
theorem uvd {t : TS} : goodR (memM b t (.int .u32 0)) := by unfold memM; split <;> exact uhu
theorem uxp {k op : Nat} {t : TS} : ∀ v ∈ (imm k op b t).1, goodR v := by
  intro v hv
  unfold imm at hv
  split at hv <;>
  · simp only [List.mem_cons, List.not_mem_nil, or_false] at hv
    rcases hv with h | h | h | h | h | h | h | h | h | h | h | h | h | h | h | h | h <;> rw [h] <;> first | exact uhu | exact usa | exact ut5 | exact usw | exact uvc | exact uvd
theorem uyv {k op : Nat} {t : TS} : ∃ m0 m1 m2 m3 m4 m5 m6 m7 m8 m9 m10 m11 m12 m13 m14 m15 m16, (imm k op b t).1 = [m0, m1, m2, m3, m4, m5, m6, m7, m8, m9, m10, m11, m12, m13, m14, m15, m16] := by
  unfold imm
  split <;> exact ⟨_, _, _, _, _, _, _, _, _, _, _, _, _, _, _, _, _, rfl⟩
theorem u41 {k : Nat} {f : FuncId} (hb : b.length < 2 ^ 61) (hp : at_ ≤ b.length) (hs : (smT b 255 ⟨at_, 0, 0⟩).2.why = 0) (hk : formN ((opcT b (⟨at_, 0, 0⟩ : TS)).1 : Nat) = k) (h17 : k < 17)
    (hf : ∀ K, ldFR K (nth ufq k) = some (.ok (.fn f [] []) K))
    (hi : ∀ (c : Nat) (H : Heap) (L : List Box) (p bad why op : Nat), p ≤ b.length → c < List.length H → runK c (C f [.ptr c 0]) (St H c (.cells [BS z b, .int .i64 p, .int .i64 (op : Nat), .int .u32 0, .int .u32 0, .int .u64 0, .int .u32 0, .int .u32 0, .int .u64 0, .int .i64 0, .int .i64 0, .bool false, .int .i64 0, .slice false true 0 [], .slice false true 0 [], .bool false, .slice false true 0 [], .slice false true 0 [], .slice false true 0 [], .int .i64 bad, .int .i64 why]) L) = some (.ok (.tup []) (St H c (rdBox z b (imm k op b ⟨p, bad, why⟩)) L))) :
    run (C u6s [BS z b, .int .i64 at_]) H = some (.ok (resI (imm k (opcT b (⟨at_, 0, 0⟩ : TS)).1 b (opcT b (⟨at_, 0, 0⟩ : TS)).2)) H) := by
  have c1 : (((at_ : Nat) : Int) < 0) = False := eq_false (by omega)
  have c2 : ((b.length : Int) < (at_ : Int)) = False := eq_false (by omega)
  have ho := use_2' (iopcS (c := List.length H + 1) (H := hadd H [.cells zeroI, .dead]) (L := []) (b := b) (z := z) (p := at_) (bad := 0) (why := 0) (m0 := .int .i64 0) (m1 := .int .u32 0) (m2 := .int .u32 0) (m3 := .int .u64 0) (m4 := .int .u32 0) (m5 := .int .u32 0) (m6 := .int .u64 0) (m7 := .int .i64 0) (m8 := .int .i64 0) (m9 := .bool false) (m10 := .int .i64 0) (m11 := .slice false true 0 []) (m12 := .slice false true 0 []) (m13 := .bool false) (m14 := .slice false true 0 []) (m15 := .slice false true 0 []) (m16 := .slice false true 0 []) hs hb hp new2')
  rw [hk] at ho
  simp only [show ((0 : Nat) : Int) = 0 from rfl] at ho
  have hn1 : (List.length H + 1 == List.length H) = false := beq_false_of_ne (by omega)
  have hn2 : (List.length H == List.length H + 1) = false := beq_false_of_ne (by omega)
  have ck : (0 ≤ (k : Int) ∧ (k : Int) < 17) = True := eq_true (by omega)
  have h1 : (opcT b (⟨at_, 0, 0⟩ : TS)).2.p ≤ b.length := uy4 hp
  have hm := use_2' (hi (List.length H + 1) (hadd H [.cells zeroI, .dead]) [] (opcT b (⟨at_, 0, 0⟩ : TS)).2.p (opcT b (⟨at_, 0, 0⟩ : TS)).2.bad (opcT b (⟨at_, 0, 0⟩ : TS)).2.why (opcT b (⟨at_, 0, 0⟩ : TS)).1 h1 new2')
  simp only [TS.eta] at hm
  have hg := uxp (b := b) (k := k) (op := (opcT b (⟨at_, 0, 0⟩ : TS)).1) (t := (opcT b (⟨at_, 0, 0⟩ : TS)).2)
  obtain ⟨m0, m1, m2, m3, m4, m5, m6, m7, m8, m9, m10, m11, m12, m13, m14, m15, m16, hcs⟩ := uyv (b := b) (k := k) (op := (opcT b (⟨at_, 0, 0⟩ : TS)).1) (t := (opcT b (⟨at_, 0, 0⟩ : TS)).2)
  generalize hr : imm k (opcT b (⟨at_, 0, 0⟩ : TS)).1 b (opcT b (⟨at_, 0, 0⟩ : TS)).2 = r at hm hg hcs ⊢
  generalize (opcT b (⟨at_, 0, 0⟩ : TS)) = o at ho hm h1 hk
  obtain ⟨cl, q⟩ := r
  simp only at hcs
  subst hcs
  have g0 := hg m0 (by simp)
  have g1 := hg m1 (by simp)
  have g2 := hg m2 (by simp)
  have g3 := hg m3 (by simp)
  have g4 := hg m4 (by simp)
  have g5 := hg m5 (by simp)
  have g6 := hg m6 (by simp)
  have g7 := hg m7 (by simp)
  have g8 := hg m8 (by simp)
  have g9 := hg m9 (by simp)
  have g10 := hg m10 (by simp)
  have g11 := hg m11 (by simp)
  have g12 := hg m12 (by simp)
  have g13 := hg m13 (by simp)
  have g14 := hg m14 (by simp)
  have g15 := hg m15 (by simp)
  have g16 := hg m16 (by simp)
  have hr := fun K => uiq (H := K)
  unfold zeroI at ho hm
  unfold resI zeroI
  unfold rdBox at hm
  simp only [List.cons_append, List.nil_append] at hm ⊢
  clear hg hi
  rw [uaj]
  by_cases hw : q.why = 0
  · have hw' : (((q.why : Nat) : Int) = 0) = True := eq_true (by omega)
    rw [if_pos hw]
    simp +contextual -dsimp (disch := omega) only [↓goDown, goUp, cr, simprocAttr, List.length_map, c1, c2, hr, ho, ujm, ck, Int.toNat_natCast, hf, hn1, hn2, u46, hm, hw', g0.1.1, g0.1.2.1, g0.1.2.2, g0.2.1, g0.2.2.1, g0.2.2.2.1, g0.2.2.2.2, g1.1.1, g1.1.2.1, g1.1.2.2, g1.2.1, g1.2.2.1, g1.2.2.2.1, g1.2.2.2.2, g2.1.1, g2.1.2.1, g2.1.2.2, g2.2.1, g2.2.2.1, g2.2.2.2.1, g2.2.2.2.2, g3.1.1, g3.1.2.1, g3.1.2.2, g3.2.1, g3.2.2.1, g3.2.2.2.1, g3.2.2.2.2, g4.1.1, g4.1.2.1, g4.1.2.2, g4.2.1, g4.2.2.1, g4.2.2.2.1, g4.2.2.2.2, g5.1.1, g5.1.2.1, g5.1.2.2, g5.2.1, g5.2.2.1, g5.2.2.2.1, g5.2.2.2.2, g6.1.1, g6.1.2.1, g6.1.2.2, g6.2.1, g6.2.2.1, g6.2.2.2.1, g6.2.2.2.2, g7.1.1, g7.1.2.1, g7.1.2.2, g7.2.1, g7.2.2.1, g7.2.2.2.1, g7.2.2.2.2, g8.1.1, g8.1.2.1, g8.1.2.2, g8.2.1, g8.2.2.1, g8.2.2.2.1, g8.2.2.2.2, g9.1.1, g9.1.2.1, g9.1.2.2, g9.2.1, g9.2.2.1, g9.2.2.2.1, g9.2.2.2.2, g10.1.1, g10.1.2.1, g10.1.2.2, g10.2.1, g10.2.2.1, g10.2.2.2.1, g10.2.2.2.2, g11.1.1, g11.1.2.1, g11.1.2.2, g11.2.1, g11.2.2.1, g11.2.2.2.1, g11.2.2.2.2, g12.1.1, g12.1.2.1, g12.1.2.2, g12.2.1, g12.2.2.1, g12.2.2.2.1, g12.2.2.2.2, g13.1.1, g13.1.2.1, g13.1.2.2, g13.2.1, g13.2.2.1, g13.2.2.2.1, g13.2.2.2.2, g14.1.1, g14.1.2.1, g14.1.2.2, g14.2.1, g14.2.2.1, g14.2.2.2.1, g14.2.2.2.2, g15.1.1, g15.1.2.1, g15.1.2.2, g15.2.1, g15.2.2.1, g15.2.2.2.1, g15.2.2.2.2, g16.1.1, g16.1.2.1, g16.1.2.2, g16.2.1, g16.2.2.1, g16.2.2.2.1, g16.2.2.2.2]
  · have hw' : (((q.why : Nat) : Int) = 0) = False := eq_false (by omega)
    rw [if_neg hw]
    simp +contextual -dsimp (disch := omega) only [↓goDown, goUp, cr, simprocAttr, List.length_map, c1, c2, hr, ho, ujm, ck, Int.toNat_natCast, hf, hn1, hn2, u46, hm, hw', g0.1.1, g0.1.2.1, g0.1.2.2, g0.2.1, g0.2.2.1, g0.2.2.2.1, g0.2.2.2.2, g1.1.1, g1.1.2.1, g1.1.2.2, g1.2.1, g1.2.2.1, g1.2.2.2.1, g1.2.2.2.2, g2.1.1, g2.1.2.1, g2.1.2.2, g2.2.1, g2.2.2.1, g2.2.2.2.1, g2.2.2.2.2, g3.1.1, g3.1.2.1, g3.1.2.2, g3.2.1, g3.2.2.1, g3.2.2.2.1, g3.2.2.2.2, g4.1.1, g4.1.2.1, g4.1.2.2, g4.2.1, g4.2.2.1, g4.2.2.2.1, g4.2.2.2.2, g5.1.1, g5.1.2.1, g5.1.2.2, g5.2.1, g5.2.2.1, g5.2.2.2.1, g5.2.2.2.2, g6.1.1, g6.1.2.1, g6.1.2.2, g6.2.1, g6.2.2.1, g6.2.2.2.1, g6.2.2.2.2, g7.1.1, g7.1.2.1, g7.1.2.2, g7.2.1, g7.2.2.1, g7.2.2.2.1, g7.2.2.2.2, g8.1.1, g8.1.2.1, g8.1.2.2, g8.2.1, g8.2.2.1, g8.2.2.2.1, g8.2.2.2.2, g9.1.1, g9.1.2.1, g9.1.2.2, g9.2.1, g9.2.2.1, g9.2.2.2.1, g9.2.2.2.2, g10.1.1, g10.1.2.1, g10.1.2.2, g10.2.1, g10.2.2.1, g10.2.2.2.1, g10.2.2.2.2, g11.1.1, g11.1.2.1, g11.1.2.2, g11.2.1, g11.2.2.1, g11.2.2.2.1, g11.2.2.2.2, g12.1.1, g12.1.2.1, g12.1.2.2, g12.2.1, g12.2.2.1, g12.2.2.2.1, g12.2.2.2.2, g13.1.1, g13.1.2.1, g13.1.2.2, g13.2.1, g13.2.2.1, g13.2.2.2.1, g13.2.2.2.2, g14.1.1, g14.1.2.1, g14.1.2.2, g14.2.1, g14.2.2.1, g14.2.2.2.1, g14.2.2.2.2, g15.1.1, g15.1.2.1, g15.1.2.2, g15.2.1, g15.2.2.1, g15.2.2.2.1, g15.2.2.2.2, g16.1.1, g16.1.2.1, g16.1.2.2, g16.2.1, g16.2.2.1, g16.2.2.2.1, g16.2.2.2.2]
end Go.Proofs.YthidcpkcfoldmaaGreat.Pi.Q
namespace Go.Proofs.YthidcpkcfoldmaaGreat.Pi.Q
open Go Go.Proofs.YthidcpkcfoldmaaGreat.Pi
attribute [local congr] ite_congr
variable {c : Nat} {H : Heap} {L : List Box} {b : List UInt8} {z : Bool} {at_ : Nat}
theorem usq {r : PV} {K : Heap} : run (C u21 [r]) K = some (.ok (.tup []) K) := by
  rw [u6r]
  simp +contextual -dsimp (disch := omega) only [↓goDown, goUp, cr, simprocAttr]
theorem uxa (hb : b.length < 2 ^ 61) (hp : at_ ≤ b.length) (hs : (smT b 255 ⟨at_, 0, 0⟩).2.why ≠ 0) : run (C u6s [BS z b, .int .i64 at_]) H = some (.ok (resI (zeroI, (smT b 255 (⟨at_, 0, 0⟩ : TS)).2)) H) := by
  have c1 : (((at_ : Nat) : Int) < 0) = False := eq_false (by omega)
  have c2 : ((b.length : Int) < (at_ : Int)) = False := eq_false (by omega)
  have ho := use_2' (uzg (c := List.length H + 1) (H := hadd H [.cells zeroI, .dead]) (L := []) (b := b) (z := z) (p := at_) (bad := 0) (why := 0) (m0 := .int .i64 0) (m1 := .int .u32 0) (m2 := .int .u32 0) (m3 := .int .u64 0) (m4 := .int .u32 0) (m5 := .int .u32 0) (m6 := .int .u64 0) (m7 := .int .i64 0) (m8 := .int .i64 0) (m9 := .bool false) (m10 := .int .i64 0) (m11 := .slice false true 0 []) (m12 := .slice false true 0 []) (m13 := .bool false) (m14 := .slice false true 0 []) (m15 := .slice false true 0 []) (m16 := .slice false true 0 []) hs hb new2')
  simp only [show ((0 : Nat) : Int) = 0 from rfl] at ho
  have hn1 : (List.length H + 1 == List.length H) = false := beq_false_of_ne (by omega)
  have hn2 : (List.length H == List.length H + 1) = false := beq_false_of_ne (by omega)
  have h17 : ((17 : Nat) : Int) = 17 := rfl
  have hr := fun K => uiq (H := K)
  have hw' : ((((smT b 255 (⟨at_, 0, 0⟩ : TS)).2.why : Nat) : Int) = 0) = False := eq_false (by omega)
  unfold ufq at hr
  unfold zeroI at ho
  unfold resI zeroI
  rw [if_neg hs]
  rw [uaj]
  simp +contextual -dsimp (disch := omega) only [↓goDown, goUp, cr, simprocAttr, List.length_map, c1, c2, hr, ho, ujm, h17, hn1, hn2, u46, usq, hw']
def readP (b : List UInt8) (a : Nat) : List PV × TS := if (smT b 255 ⟨a, 0, 0⟩).2.why = 0 then imm (formN ((opcT b ⟨a, 0, 0⟩).1 : Nat)) (opcT b ⟨a, 0, 0⟩).1 b (opcT b ⟨a, 0, 0⟩).2 else (zeroI, (smT b 255 ⟨a, 0, 0⟩).2)
theorem uw9 (hb : b.length < 2 ^ 61) (hp : at_ ≤ b.length) : run (C u6s [BS z b, .int .i64 at_]) H = some (.ok (resI (readP b at_)) H) := by
  unfold readP
  by_cases hs : (smT b 255 ⟨at_, 0, 0⟩).2.why = 0
  · rw [if_pos hs]
    have hl := ufp ((opcT b (⟨at_, 0, 0⟩ : TS)).1 : Nat)
    generalize hk : formN ((opcT b (⟨at_, 0, 0⟩ : TS)).1 : Nat) = k at hl ⊢
    have h : k = 0 ∨ k = 1 ∨ k = 2 ∨ k = 3 ∨ k = 4 ∨ k = 5 ∨ k = 6 ∨ k = 7 ∨ k = 8 ∨ k = 9 ∨ k = 10 ∨ k = 11 ∨ k = 12 ∨ k = 13 ∨ k = 14 ∨ k = 15 ∨ k = 16 := by omega
    rcases h with rfl | rfl | rfl | rfl | rfl | rfl | rfl | rfl | rfl | rfl | rfl | rfl | rfl | rfl | rfl | rfl | rfl
    · exact u41 hb hp hs hk (by decide) (fun K => rfl) (fun c H L p bad why op hp hc => imm_0 hc)
    · exact u41 hb hp hs hk (by decide) (fun K => rfl) (fun c H L p bad why op hp hc => imm_1 hc)
    · exact u41 hb hp hs hk (by decide) (fun K => rfl) (fun c H L p bad why op hp hc => imm_2 hb hp hc)
    · exact u41 hb hp hs hk (by decide) (fun K => rfl) (fun c H L p bad why op hp hc => imm_3 hb hp hc)
    · exact u41 hb hp hs hk (by decide) (fun K => rfl) (fun c H L p bad why op hp hc => imm_4 hb hp hc)
    · exact u41 hb hp hs hk (by decide) (fun K => rfl) (fun c H L p bad why op hp hc => imm_5 hb hp hc)
    · exact u41 hb hp hs hk (by decide) (fun K => rfl) (fun c H L p bad why op hp hc => imm_6 hb hp hc)
    · exact u41 hb hp hs hk (by decide) (fun K => rfl) (fun c H L p bad why op hp hc => imm_7 hb hp hc)
    · exact u41 hb hp hs hk (by decide) (fun K => rfl) (fun c H L p bad why op hp hc => imm_8 hb hp hc)
    · exact u41 hb hp hs hk (by decide) (fun K => rfl) (fun c H L p bad why op hp hc => imm_9 hb hp hc)
    · exact u41 hb hp hs hk (by decide) (fun K => rfl) (fun c H L p bad why op hp hc => imm_10 hb hp hc)
    · exact u41 hb hp hs hk (by decide) (fun K => rfl) (fun c H L p bad why op hp hc => imm_11 hb hp hc)
    · exact u41 hb hp hs hk (by decide) (fun K => rfl) (fun c H L p bad why op hp hc => imm_12 hb hp hc)
    · exact u41 hb hp hs hk (by decide) (fun K => rfl) (fun c H L p bad why op hp hc => imm_13 hb hp hc)
    · exact u41 hb hp hs hk (by decide) (fun K => rfl) (fun c H L p bad why op hp hc => imm_14 hb hp hc)
    · exact u41 hb hp hs hk (by decide) (fun K => rfl) (fun c H L p bad why op hp hc => imm_15 hb hp hc)
    · exact u41 hb hp hs hk (by decide) (fun K => rfl) (fun c H L p bad why op hp hc => imm_16 hb hp hc)
  · rw [if_neg hs]
    exact uxa hb hp hs
theorem uvm {a : Int} (h : a < 0 ∨ (b.length : Int) < a) : run (C u6s [BS z b, .int .i64 a]) H = some (.ok (.tup [.agg zeroI, .int .i64 0, .int .i64 1]) H) := by
  unfold zeroI
  rw [uaj]
  by_cases h0 : a < 0
  · simp +contextual -dsimp (disch := omega) only [↓goDown, goUp, cr, simprocAttr, List.length_map, eq_true h0]
  · have h1 : (b.length : Int) < a := by omega
    simp +contextual -dsimp (disch := omega) only [↓goDown, goUp, cr, simprocAttr, List.length_map, h0, eq_true h1]
end Go.Proofs.YthidcpkcfoldmaaGreat.Pi.Q
namespace Go.Proofs.YthidcpkcfoldmaaGreat.Pi.Q
open Go Go.Proofs.YthidcpkcfoldmaaGreat.Pi
attribute [local congr] ite_congr
variable {c : Nat} {H : Heap} {L : List Box} {b : List UInt8} {z : Bool} {p bad why : Nat}
theorem rfailS {a w : Nat} (hw : w ≠ 0) (hc : c < List.length H) : runK c (C u0d [.ptr c 0, .int .i64 a, .int .i64 w]) (St H c (.cells [BS z b, .int .i64 p, .int .i64 bad, .int .i64 why]) L) = some (.ok (.tup []) (St H c (.cells [BS z b, .int .i64 p, .int .i64 (flT a w ⟨p, bad, why⟩).bad, .int .i64 (flT a w ⟨p, bad, why⟩).why]) L)) := liftT (fun H hc => by
  rw [u8r]
  unfold flT
  by_cases h1 : why = 0
  · subst h1
    have e0 : ((0 : Nat) : Int) = 0 := rfl
    rw [if_pos ⟨rfl, hw⟩]
    simp +contextual -dsimp (disch := omega) only [↓kDown, kUp, ↓goDown, goUp, cr, simprocAttr, e0]
  · have h1' : (((why : Nat) : Int) = 0) = False := eq_false (by omega)
    rw [if_neg (fun h => h1 h.1)]
    simp +contextual -dsimp (disch := omega) only [↓kDown, kUp, ↓goDown, goUp, cr, simprocAttr, h1']) hc
theorem ru32S (hb : b.length < 2 ^ 61) (hp : p ≤ b.length) (hc : c < List.length H) : runK c (C u0b [.ptr c 0]) (St H c (.cells [BS z b, .int .i64 p, .int .i64 bad, .int .i64 why]) L) = some (.ok (.int .u32 ((tk (0 : Nat) (rdU b 32 b.length) ⟨p, bad, why⟩).1 : Nat)) (St H c (.cells [BS z b, .int .i64 ((tk (0 : Nat) (rdU b 32 b.length) ⟨p, bad, why⟩).2.p : Nat), .int .i64 ((tk (0 : Nat) (rdU b 32 b.length) ⟨p, bad, why⟩).2.bad : Nat), .int .i64 ((tk (0 : Nat) (rdU b 32 b.length) ⟨p, bad, why⟩).2.why : Nat)]) L)) := liftT (fun H hc => by
  have hn := fun K => uqp (H := K) (z := z) (b := b) (a := p) (e := b.length) (B := 32) (Nat.le_refl _) hb (.inl rfl) hp
  simp only [show ((32 : Nat) : Int) = 32 from rfl] at hn
  rw [u98]
  unfold tk
  simp only
  have e0 : ((0 : Nat) : Int) = 0 := rfl
  by_cases hy : why = 0
  · subst hy
    rw [if_pos rfl]
    cases hr : rdU b 32 b.length p with
    | ok v q =>
      have hv := (uk7 hr).1
      rw [hr] at hn
      simp only [retU] at hn
      simp +contextual -dsimp (disch := omega) only [↓kDown, kUp, ↓goDown, goUp, cr, simprocAttr, e0, List.length_map, toK (m := C u0e [BS z b, .int .i64 p, .int .i64 b.length, .int .i64 32, .bool false]), hn] <;> rfl
    | err a w =>
      have hw := ukd hr
      have hw' : (((w : Nat) : Int) = 0) = False := eq_false (by omega)
      have hfl := fun L => rfailS (c := c) (H := H) (L := L) (b := b) (z := z) (p := p) (bad := bad) (why := 0) (a := a) (w := w) hw hc
      have f1 : (flT a w ⟨p, bad, 0⟩).bad = a := by unfold flT; rw [if_pos ⟨rfl, hw⟩]
      have f2 : (flT a w ⟨p, bad, 0⟩).why = w := by unfold flT; rw [if_pos ⟨rfl, hw⟩]
      rw [f1, f2, e0] at hfl
      rw [hr] at hn
      simp only [retU] at hn
      simp +contextual -dsimp (disch := omega) only [↓kDown, kUp, ↓goDown, goUp, cr, simprocAttr, e0, List.length_map, toK (m := C u0e [BS z b, .int .i64 p, .int .i64 b.length, .int .i64 32, .bool false]), hn, hw', hfl] <;> rfl
  · have hy' : (((why : Nat) : Int) = 0) = False := eq_false (by omega)
    rw [if_neg hy]
    simp +contextual -dsimp (disch := omega) only [↓kDown, kUp, ↓goDown, goUp, cr, simprocAttr, hy'] <;> rfl) hc
end Go.Proofs.YthidcpkcfoldmaaGreat.Pi.Q
namespace Go.Proofs.YthidcpkcfoldmaaGreat.Pi.Q
open Go Go.Proofs.YthidcpkcfoldmaaGreat.Pi
attribute [local congr] ite_congr
variable {c : Nat} {H : Heap} {L : List Box} {b : List UInt8} {z : Bool} {p bad why : Nat}
theorem rU64S (hb : b.length < 2 ^ 61) (hp : p ≤ b.length) (hc : c < List.length H) : runK c (C u10 [.ptr c 0, .int .i64 64, .bool false]) (St H c (.cells [BS z b, .int .i64 p, .int .i64 bad, .int .i64 why]) L) = some (.ok (.int .u64 ((tk (0 : Nat) (rdU b 64 b.length) ⟨p, bad, why⟩).1 : Nat)) (St H c (.cells [BS z b, .int .i64 ((tk (0 : Nat) (rdU b 64 b.length) ⟨p, bad, why⟩).2.p : Nat), .int .i64 ((tk (0 : Nat) (rdU b 64 b.length) ⟨p, bad, why⟩).2.bad : Nat), .int .i64 ((tk (0 : Nat) (rdU b 64 b.length) ⟨p, bad, why⟩).2.why : Nat)]) L)) := liftT (fun H hc => by
  have hn := fun K => uqp (H := K) (z := z) (b := b) (a := p) (e := b.length) (B := 64) (Nat.le_refl _) hb (.inr rfl) hp
  simp only [show ((64 : Nat) : Int) = 64 from rfl] at hn
  rw [u40]
  unfold tk
  simp only
  have e0 : ((0 : Nat) : Int) = 0 := rfl
  by_cases hy : why = 0
  · subst hy
    rw [if_pos rfl]
    cases hr : rdU b 64 b.length p with
    | ok v q =>
      rw [hr] at hn
      simp only [retU] at hn
      simp +contextual -dsimp (disch := omega) only [↓kDown, kUp, ↓goDown, goUp, cr, simprocAttr, e0, List.length_map, toK (m := C u0e [BS z b, .int .i64 p, .int .i64 b.length, .int .i64 64, .bool false]), hn] <;> rfl
    | err a w =>
      have hw := ukd hr
      have hw' : (((w : Nat) : Int) = 0) = False := eq_false (by omega)
      have hfl := fun L => rfailS (c := c) (H := H) (L := L) (b := b) (z := z) (p := p) (bad := bad) (why := 0) (a := a) (w := w) hw hc
      have f1 : (flT a w ⟨p, bad, 0⟩).bad = a := by unfold flT; rw [if_pos ⟨rfl, hw⟩]
      have f2 : (flT a w ⟨p, bad, 0⟩).why = w := by unfold flT; rw [if_pos ⟨rfl, hw⟩]
      rw [f1, f2, e0] at hfl
      rw [hr] at hn
      simp only [retU] at hn
      simp +contextual -dsimp (disch := omega) only [↓kDown, kUp, ↓goDown, goUp, cr, simprocAttr, e0, List.length_map, toK (m := C u0e [BS z b, .int .i64 p, .int .i64 b.length, .int .i64 64, .bool false]), hn, hw', hfl] <;> rfl
  · have hy' : (((why : Nat) : Int) = 0) = False := eq_false (by omega)
    rw [if_neg hy]
    simp +contextual -dsimp (disch := omega) only [↓kDown, kUp, ↓goDown, goUp, cr, simprocAttr, hy'] <;> rfl) hc
theorem rS32S (hb : b.length < 2 ^ 61) (hp : p ≤ b.length) (hc : c < List.length H) : runK c (C u10 [.ptr c 0, .int .i64 32, .bool true]) (St H c (.cells [BS z b, .int .i64 p, .int .i64 bad, .int .i64 why]) L) = some (.ok (.int .u64 (IntKind.u64.wrap (tk (0 : Int) (rdS b 32 b.length) ⟨p, bad, why⟩).1)) (St H c (.cells [BS z b, .int .i64 ((tk (0 : Int) (rdS b 32 b.length) ⟨p, bad, why⟩).2.p : Nat), .int .i64 ((tk (0 : Int) (rdS b 32 b.length) ⟨p, bad, why⟩).2.bad : Nat), .int .i64 ((tk (0 : Int) (rdS b 32 b.length) ⟨p, bad, why⟩).2.why : Nat)]) L)) := liftT (fun H hc => by
  have hn := fun K => ufk (H := K) (z := z) (b := b) (a := p) (e := b.length) (B := 32) (Nat.le_refl _) hb (.inl rfl) hp
  simp only [show ((32 : Nat) : Int) = 32 from rfl] at hn
  rw [u40]
  unfold tk
  simp only
  have e0 : ((0 : Nat) : Int) = 0 := rfl
  by_cases hy : why = 0
  · subst hy
    rw [if_pos rfl]
    cases hr : rdS b 32 b.length p with
    | ok v q =>
      rw [hr] at hn
      simp only [retN] at hn
      simp +contextual -dsimp (disch := omega) only [↓kDown, kUp, ↓goDown, goUp, cr, simprocAttr, e0, List.length_map, toK (m := C u0e [BS z b, .int .i64 p, .int .i64 b.length, .int .i64 32, .bool true]), hn] <;> rfl
    | err a w =>
      have hw := uab hr
      have hw' : (((w : Nat) : Int) = 0) = False := eq_false (by omega)
      have hfl := fun L => rfailS (c := c) (H := H) (L := L) (b := b) (z := z) (p := p) (bad := bad) (why := 0) (a := a) (w := w) hw hc
      have f1 : (flT a w ⟨p, bad, 0⟩).bad = a := by unfold flT; rw [if_pos ⟨rfl, hw⟩]
      have f2 : (flT a w ⟨p, bad, 0⟩).why = w := by unfold flT; rw [if_pos ⟨rfl, hw⟩]
      rw [f1, f2, e0] at hfl
      rw [hr] at hn
      simp only [retN] at hn
      simp +contextual -dsimp (disch := omega) only [↓kDown, kUp, ↓goDown, goUp, cr, simprocAttr, e0, List.length_map, toK (m := C u0e [BS z b, .int .i64 p, .int .i64 b.length, .int .i64 32, .bool true]), hn, hw', hfl] <;> rfl
  · have hy' : (((why : Nat) : Int) = 0) = False := eq_false (by omega)
    rw [if_neg hy]
    simp +contextual -dsimp (disch := omega) only [↓kDown, kUp, ↓goDown, goUp, cr, simprocAttr, hy'] <;> rfl) hc
theorem rS64S (hb : b.length < 2 ^ 61) (hp : p ≤ b.length) (hc : c < List.length H) : runK c (C u10 [.ptr c 0, .int .i64 64, .bool true]) (St H c (.cells [BS z b, .int .i64 p, .int .i64 bad, .int .i64 why]) L) = some (.ok (.int .u64 (IntKind.u64.wrap (tk (0 : Int) (rdS b 64 b.length) ⟨p, bad, why⟩).1)) (St H c (.cells [BS z b, .int .i64 ((tk (0 : Int) (rdS b 64 b.length) ⟨p, bad, why⟩).2.p : Nat), .int .i64 ((tk (0 : Int) (rdS b 64 b.length) ⟨p, bad, why⟩).2.bad : Nat), .int .i64 ((tk (0 : Int) (rdS b 64 b.length) ⟨p, bad, why⟩).2.why : Nat)]) L)) := liftT (fun H hc => by
  have hn := fun K => ufk (H := K) (z := z) (b := b) (a := p) (e := b.length) (B := 64) (Nat.le_refl _) hb (.inr (.inr rfl)) hp
  simp only [show ((64 : Nat) : Int) = 64 from rfl] at hn
  rw [u40]
  unfold tk
  simp only
  have e0 : ((0 : Nat) : Int) = 0 := rfl
  by_cases hy : why = 0
  · subst hy
    rw [if_pos rfl]
    cases hr : rdS b 64 b.length p with
    | ok v q =>
      rw [hr] at hn
      simp only [retN] at hn
      simp +contextual -dsimp (disch := omega) only [↓kDown, kUp, ↓goDown, goUp, cr, simprocAttr, e0, List.length_map, toK (m := C u0e [BS z b, .int .i64 p, .int .i64 b.length, .int .i64 64, .bool true]), hn] <;> rfl
    | err a w =>
      have hw := uab hr
      have hw' : (((w : Nat) : Int) = 0) = False := eq_false (by omega)
      have hfl := fun L => rfailS (c := c) (H := H) (L := L) (b := b) (z := z) (p := p) (bad := bad) (why := 0) (a := a) (w := w) hw hc
      have f1 : (flT a w ⟨p, bad, 0⟩).bad = a := by unfold flT; rw [if_pos ⟨rfl, hw⟩]
      have f2 : (flT a w ⟨p, bad, 0⟩).why = w := by unfold flT; rw [if_pos ⟨rfl, hw⟩]
      rw [f1, f2, e0] at hfl
      rw [hr] at hn
      simp only [retN] at hn
      simp +contextual -dsimp (disch := omega) only [↓kDown, kUp, ↓goDown, goUp, cr, simprocAttr, e0, List.length_map, toK (m := C u0e [BS z b, .int .i64 p, .int .i64 b.length, .int .i64 64, .bool true]), hn, hw', hfl] <;> rfl
  · have hy' : (((why : Nat) : Int) = 0) = False := eq_false (by omega)
    rw [if_neg hy]
    simp +contextual -dsimp (disch := omega) only [↓kDown, kUp, ↓goDown, goUp, cr, simprocAttr, hy'] <;> rfl) hc
theorem rF1S (hb : b.length < 2 ^ 61) (hp : p ≤ b.length) (hc : c < List.length H) : runK c (C u0v [.ptr c 0, .int .i64 1]) (St H c (.cells [BS z b, .int .i64 p, .int .i64 bad, .int .i64 why]) L) = some (.ok (.int .u64 ((tk (0 : Nat) (rdF b 1 b.length) ⟨p, bad, why⟩).1 : Nat)) (St H c (.cells [BS z b, .int .i64 ((tk (0 : Nat) (rdF b 1 b.length) ⟨p, bad, why⟩).2.p : Nat), .int .i64 ((tk (0 : Nat) (rdF b 1 b.length) ⟨p, bad, why⟩).2.bad : Nat), .int .i64 ((tk (0 : Nat) (rdF b 1 b.length) ⟨p, bad, why⟩).2.why : Nat)]) L)) := liftT (fun H hc => by
  have hn := fun K => uhj (H := K) (z := z) (b := b) (p := p) (e := b.length) (k := 1) (Nat.le_refl _) hb hp (by decide)
  simp only [show ((1 : Nat) : Int) = 1 from rfl] at hn
  rw [u4d]
  unfold tk
  simp only
  have e0 : ((0 : Nat) : Int) = 0 := rfl
  by_cases hy : why = 0
  · subst hy
    rw [if_pos rfl]
    cases hr : rdF b 1 b.length p with
    | ok v q =>
      rw [hr] at hn
      simp only [retU] at hn
      simp +contextual -dsimp (disch := omega) only [↓kDown, kUp, ↓goDown, goUp, cr, simprocAttr, e0, List.length_map, toK (m := C u1d [BS z b, .int .i64 p, .int .i64 b.length, .int .i64 1]), hn] <;> rfl
    | err a w =>
      have hw := uho hr
      have hw' : (((w : Nat) : Int) = 0) = False := eq_false (by omega)
      have hfl := fun L => rfailS (c := c) (H := H) (L := L) (b := b) (z := z) (p := p) (bad := bad) (why := 0) (a := a) (w := w) hw hc
      have f1 : (flT a w ⟨p, bad, 0⟩).bad = a := by unfold flT; rw [if_pos ⟨rfl, hw⟩]
      have f2 : (flT a w ⟨p, bad, 0⟩).why = w := by unfold flT; rw [if_pos ⟨rfl, hw⟩]
      rw [f1, f2, e0] at hfl
      rw [hr] at hn
      simp only [retU] at hn
      simp +contextual -dsimp (disch := omega) only [↓kDown, kUp, ↓goDown, goUp, cr, simprocAttr, e0, List.length_map, toK (m := C u1d [BS z b, .int .i64 p, .int .i64 b.length, .int .i64 1]), hn, hw', hfl] <;> rfl
  · have hy' : (((why : Nat) : Int) = 0) = False := eq_false (by omega)
    rw [if_neg hy]
    simp +contextual -dsimp (disch := omega) only [↓kDown, kUp, ↓goDown, goUp, cr, simprocAttr, hy'] <;> rfl) hc
theorem rF4S (hb : b.length < 2 ^ 61) (hp : p ≤ b.length) (hc : c < List.length H) : runK c (C u0v [.ptr c 0, .int .i64 4]) (St H c (.cells [BS z b, .int .i64 p, .int .i64 bad, .int .i64 why]) L) = some (.ok (.int .u64 ((tk (0 : Nat) (rdF b 4 b.length) ⟨p, bad, why⟩).1 : Nat)) (St H c (.cells [BS z b, .int .i64 ((tk (0 : Nat) (rdF b 4 b.length) ⟨p, bad, why⟩).2.p : Nat), .int .i64 ((tk (0 : Nat) (rdF b 4 b.length) ⟨p, bad, why⟩).2.bad : Nat), .int .i64 ((tk (0 : Nat) (rdF b 4 b.length) ⟨p, bad, why⟩).2.why : Nat)]) L)) := liftT (fun H hc => by
  have hn := fun K => uhj (H := K) (z := z) (b := b) (p := p) (e := b.length) (k := 4) (Nat.le_refl _) hb hp (by decide)
  simp only [show ((4 : Nat) : Int) = 4 from rfl] at hn
  rw [u4d]
  unfold tk
  simp only
  have e0 : ((0 : Nat) : Int) = 0 := rfl
  by_cases hy : why = 0
  · subst hy
    rw [if_pos rfl]
    cases hr : rdF b 4 b.length p with
    | ok v q =>
      rw [hr] at hn
      simp only [retU] at hn
      simp +contextual -dsimp (disch := omega) only [↓kDown, kUp, ↓goDown, goUp, cr, simprocAttr, e0, List.length_map, toK (m := C u1d [BS z b, .int .i64 p, .int .i64 b.length, .int .i64 4]), hn] <;> rfl
    | err a w =>
      have hw := uho hr
      have hw' : (((w : Nat) : Int) = 0) = False := eq_false (by omega)
      have hfl := fun L => rfailS (c := c) (H := H) (L := L) (b := b) (z := z) (p := p) (bad := bad) (why := 0) (a := a) (w := w) hw hc
      have f1 : (flT a w ⟨p, bad, 0⟩).bad = a := by unfold flT; rw [if_pos ⟨rfl, hw⟩]
      have f2 : (flT a w ⟨p, bad, 0⟩).why = w := by unfold flT; rw [if_pos ⟨rfl, hw⟩]
      rw [f1, f2, e0] at hfl
      rw [hr] at hn
      simp only [retU] at hn
      simp +contextual -dsimp (disch := omega) only [↓kDown, kUp, ↓goDown, goUp, cr, simprocAttr, e0, List.length_map, toK (m := C u1d [BS z b, .int .i64 p, .int .i64 b.length, .int .i64 4]), hn, hw', hfl] <;> rfl
  · have hy' : (((why : Nat) : Int) = 0) = False := eq_false (by omega)
    rw [if_neg hy]
    simp +contextual -dsimp (disch := omega) only [↓kDown, kUp, ↓goDown, goUp, cr, simprocAttr, hy'] <;> rfl) hc
theorem rF8S (hb : b.length < 2 ^ 61) (hp : p ≤ b.length) (hc : c < List.length H) : runK c (C u0v [.ptr c 0, .int .i64 8]) (St H c (.cells [BS z b, .int .i64 p, .int .i64 bad, .int .i64 why]) L) = some (.ok (.int .u64 ((tk (0 : Nat) (rdF b 8 b.length) ⟨p, bad, why⟩).1 : Nat)) (St H c (.cells [BS z b, .int .i64 ((tk (0 : Nat) (rdF b 8 b.length) ⟨p, bad, why⟩).2.p : Nat), .int .i64 ((tk (0 : Nat) (rdF b 8 b.length) ⟨p, bad, why⟩).2.bad : Nat), .int .i64 ((tk (0 : Nat) (rdF b 8 b.length) ⟨p, bad, why⟩).2.why : Nat)]) L)) := liftT (fun H hc => by
  have hn := fun K => uhj (H := K) (z := z) (b := b) (p := p) (e := b.length) (k := 8) (Nat.le_refl _) hb hp (by decide)
  simp only [show ((8 : Nat) : Int) = 8 from rfl] at hn
  rw [u4d]
  unfold tk
  simp only
  have e0 : ((0 : Nat) : Int) = 0 := rfl
  by_cases hy : why = 0
  · subst hy
    rw [if_pos rfl]
    cases hr : rdF b 8 b.length p with
    | ok v q =>
      rw [hr] at hn
      simp only [retU] at hn
      simp +contextual -dsimp (disch := omega) only [↓kDown, kUp, ↓goDown, goUp, cr, simprocAttr, e0, List.length_map, toK (m := C u1d [BS z b, .int .i64 p, .int .i64 b.length, .int .i64 8]), hn] <;> rfl
    | err a w =>
      have hw := uho hr
      have hw' : (((w : Nat) : Int) = 0) = False := eq_false (by omega)
      have hfl := fun L => rfailS (c := c) (H := H) (L := L) (b := b) (z := z) (p := p) (bad := bad) (why := 0) (a := a) (w := w) hw hc
      have f1 : (flT a w ⟨p, bad, 0⟩).bad = a := by unfold flT; rw [if_pos ⟨rfl, hw⟩]
      have f2 : (flT a w ⟨p, bad, 0⟩).why = w := by unfold flT; rw [if_pos ⟨rfl, hw⟩]
      rw [f1, f2, e0] at hfl
      rw [hr] at hn
      simp only [retU] at hn
      simp +contextual -dsimp (disch := omega) only [↓kDown, kUp, ↓goDown, goUp, cr, simprocAttr, e0, List.length_map, toK (m := C u1d [BS z b, .int .i64 p, .int .i64 b.length, .int .i64 8]), hn, hw', hfl] <;> rfl
  · have hy' : (((why : Nat) : Int) = 0) = False := eq_false (by omega)
    rw [if_neg hy]
    simp +contextual -dsimp (disch := omega) only [↓kDown, kUp, ↓goDown, goUp, cr, simprocAttr, hy'] <;> rfl) hc
end Go.Proofs.YthidcpkcfoldmaaGreat.Pi.Q
namespace Go.Proofs.YthidcpkcfoldmaaGreat.Pi.Q
open Go Go.Proofs.YthidcpkcfoldmaaGreat.Pi
attribute [local congr] ite_congr
variable {c : Nat} {H : Heap} {L : List Box} {b : List UInt8} {z : Bool} {p bad why : Nat}
theorem rfewS {most : Nat} (hb : b.length < 2 ^ 61) (hp : p ≤ b.length) (hc : c < List.length H) : runK c (C u2i [.ptr c 0, .int .i64 most]) (St H c (.cells [BS z b, .int .i64 p, .int .i64 bad, .int .i64 why]) L) = some (.ok (.int .i64 ((upT b most 2 ⟨p, bad, why⟩).1 : Nat)) (St H c (.cells [BS z b, .int .i64 ((upT b most 2 ⟨p, bad, why⟩).2.p : Nat), .int .i64 ((upT b most 2 ⟨p, bad, why⟩).2.bad : Nat), .int .i64 ((upT b most 2 ⟨p, bad, why⟩).2.why : Nat)]) L)) := liftT (fun H hc => by
  have hu := fun L => ru32S (c := c) (H := H) (L := L) (b := b) (z := z) (p := p) (bad := bad) (why := why) hb hp hc
  have hlt := tkU_lt (b := b) (t := ⟨p, bad, why⟩)
  rw [u95]
  unfold upT
  generalize (tk (0 : Nat) (rdU b 32 b.length) ⟨p, bad, why⟩) = o at hu hlt ⊢
  obtain ⟨n, ⟨p1, bad1, why1⟩⟩ := o
  simp only at hu hlt ⊢
  by_cases h1 : why1 = 0
  · subst h1
    have e0 : ((0 : Nat) : Int) = 0 := rfl
    have e2 : ((2 : Nat) : Int) = 2 := rfl
    by_cases h2 : most < n
    · have h2' : (most : Int) < (n : Int) := by omega
      have hfl := fun L => rfailS (c := c) (H := H) (L := L) (b := b) (z := z) (p := p1) (bad := bad1) (why := 0) (a := p) (w := 2) (by decide) hc
      have f1 : (flT p 2 ⟨p1, bad1, 0⟩).bad = p := by unfold flT; rw [if_pos ⟨rfl, by decide⟩]
      have f2 : (flT p 2 ⟨p1, bad1, 0⟩).why = 2 := by unfold flT; rw [if_pos ⟨rfl, by decide⟩]
      rw [f1, f2, e0, e2] at hfl
      rw [e0] at hu
      rw [if_pos ⟨rfl, h2⟩]
      simp +contextual -dsimp (disch := omega) only [↓kDown, kUp, ↓goDown, goUp, cr, simprocAttr, hu, eq_true h2', hfl] <;> rfl
    · have h2' : ¬ (most : Int) < (n : Int) := by omega
      rw [e0] at hu
      rw [if_neg (fun h => h2 h.2)]
      simp +contextual -dsimp (disch := omega) only [↓kDown, kUp, ↓goDown, goUp, cr, simprocAttr, hu, h2'] <;> rfl
  · have h1' : (((why1 : Nat) : Int) = 0) = False := eq_false (by omega)
    rw [if_neg (fun h => h1 h.1)]
    simp +contextual -dsimp (disch := omega) only [↓kDown, kUp, ↓goDown, goUp, cr, simprocAttr, hu, h1'] <;> rfl) hc
theorem smT_F {most : Nat} {t : TS} (ht : t.p ≤ b.length) : smT b most t = if (tk (0 : Nat) (rdF b 1 b.length) t).2.why = 0 ∧ most < (tk (0 : Nat) (rdF b 1 b.length) t).1 then ((tk (0 : Nat) (rdF b 1 b.length) t).1, ⟨(tk (0 : Nat) (rdF b 1 b.length) t).2.p, t.p, 4⟩) else tk (0 : Nat) (rdF b 1 b.length) t := by
  unfold smT tk
  by_cases h0 : t.why = 0
  · rw [if_pos h0, if_pos h0]
    by_cases h1 : t.p < b.length
    · have hr : rdF b 1 b.length t.p = .ok ((b.getD t.p 0).toNat) (t.p + 1) := by
        unfold rdF
        rw [if_neg (by omega)]
        simp [fixN]
      rw [hr, if_pos h1]
      simp only [true_and]
    · have hr : rdF b 1 b.length t.p = .err b.length 3 := by
        unfold rdF
        rw [if_pos (by omega)]
      rw [hr, if_neg h1]
      simp
  · rw [if_neg h0, if_neg h0]
    simp [h0]
theorem usk {most : Nat} (hm : most < 256) (hb : b.length < 2 ^ 61) (hp : p ≤ b.length) (hc : c < List.length H) : runK c (C u24 [.ptr c 0, .int .u8 most]) (St H c (.cells [BS z b, .int .i64 p, .int .i64 bad, .int .i64 why]) L) = some (.ok (.int .u8 ((smT b most ⟨p, bad, why⟩).1 : Nat)) (St H c (.cells [BS z b, .int .i64 ((smT b most ⟨p, bad, why⟩).2.p : Nat), .int .i64 ((smT b most ⟨p, bad, why⟩).2.bad : Nat), .int .i64 ((smT b most ⟨p, bad, why⟩).2.why : Nat)]) L)) := liftT (fun H hc => by
  have hu := fun L => rF1S (c := c) (H := H) (L := L) (b := b) (z := z) (p := p) (bad := bad) (why := why) hb hp hc
  have hlt : (tk (0 : Nat) (rdF b 1 b.length) (⟨p, bad, why⟩ : TS)).1 < 256 := by
    have := smT_lt (b := b) (most := 255) (t := ⟨p, bad, why⟩)
    rw [smT_F hp] at this
    split at this
    · rename_i h; exact this
    · exact this
  rw [u8e, smT_F hp]
  generalize (tk (0 : Nat) (rdF b 1 b.length) ⟨p, bad, why⟩) = o at hu hlt ⊢
  obtain ⟨n, ⟨p1, bad1, why1⟩⟩ := o
  simp only at hu hlt ⊢
  by_cases h1 : why1 = 0
  · subst h1
    have e0 : ((0 : Nat) : Int) = 0 := rfl
    have e4 : ((4 : Nat) : Int) = 4 := rfl
    by_cases h2 : most < n
    · have h2' : (most : Int) < (n : Int) := by omega
      have hfl := fun L => rfailS (c := c) (H := H) (L := L) (b := b) (z := z) (p := p1) (bad := bad1) (why := 0) (a := p) (w := 4) (by decide) hc
      have f1 : (flT p 4 ⟨p1, bad1, 0⟩).bad = p := by unfold flT; rw [if_pos ⟨rfl, by decide⟩]
      have f2 : (flT p 4 ⟨p1, bad1, 0⟩).why = 4 := by unfold flT; rw [if_pos ⟨rfl, by decide⟩]
      rw [f1, f2, e0, e4] at hfl
      rw [e0] at hu
      rw [if_pos ⟨rfl, h2⟩]
      simp +contextual -dsimp (disch := omega) only [↓kDown, kUp, ↓goDown, goUp, cr, simprocAttr, u2t, hu, eq_true h2', hfl] <;> rfl
    · have h2' : ¬ (most : Int) < (n : Int) := by omega
      rw [e0] at hu
      rw [if_neg (fun h => h2 h.2)]
      simp +contextual -dsimp (disch := omega) only [↓kDown, kUp, ↓goDown, goUp, cr, simprocAttr, u2t, hu, h2'] <;> rfl
  · have h1' : (((why1 : Nat) : Int) = 0) = False := eq_false (by omega)
    rw [if_neg (fun h => h1 h.1)]
    simp +contextual -dsimp (disch := omega) only [↓kDown, kUp, ↓goDown, goUp, cr, simprocAttr, u2t, hu, h1'] <;> rfl) hc
end Go.Proofs.YthidcpkcfoldmaaGreat.Pi.Q
namespace Go.Proofs.YthidcpkcfoldmaaGreat.Pi.Q
open Go Go.Proofs.YthidcpkcfoldmaaGreat.Pi
attribute [local congr] ite_congr
variable {c : Nat} {H : Heap} {L : List Box} {b : List UInt8} {z : Bool} {p bad why : Nat}
theorem rheapS (hb : b.length < 2 ^ 61) (hp : p ≤ b.length) (hc : c < List.length H) : runK c (C u1o [.ptr c 0]) (St H c (.cells [BS z b, .int .i64 p, .int .i64 bad, .int .i64 why]) L) = some (.ok (.int .i64 (tk (0 : Int) (rHeap b) ⟨p, bad, why⟩).1) (St H c (.cells [BS z b, .int .i64 ((tk (0 : Int) (rHeap b) ⟨p, bad, why⟩).2.p : Nat), .int .i64 ((tk (0 : Int) (rHeap b) ⟨p, bad, why⟩).2.bad : Nat), .int .i64 ((tk (0 : Int) (rHeap b) ⟨p, bad, why⟩).2.why : Nat)]) L)) := liftT (fun H hc => by
  have hn : ∀ K, run (C u4p [BS z b, .int .i64 p]) K = some (.ok (outR (fun x : Int => .int .i64 x) (.int .i64 0) (rHeap b p)) K) := fun K => by
    have := umi (H := K) (z := z) hb (at_ := (p : Int))
    unfold atPl at this
    rw [if_neg (by omega), Int.toNat_natCast] at this
    exact this
  rw [u8s]
  unfold tk
  simp only
  have e0 : ((0 : Nat) : Int) = 0 := rfl
  by_cases hy : why = 0
  · subst hy
    rw [if_pos rfl]
    cases hr : rHeap b p with
    | ok v q =>
      rw [hr] at hn
      simp only [outR] at hn
      simp +contextual -dsimp (disch := omega) only [↓kDown, kUp, ↓goDown, goUp, cr, simprocAttr, e0, hn] <;> rfl
    | err a w =>
      have hw := uh9 hr
      have hw' : (((w : Nat) : Int) = 0) = False := eq_false (by omega)
      have hfl := fun L => rfailS (c := c) (H := H) (L := L) (b := b) (z := z) (p := p) (bad := bad) (why := 0) (a := a) (w := w) hw hc
      have f1 : (flT a w ⟨p, bad, 0⟩).bad = a := by unfold flT; rw [if_pos ⟨rfl, hw⟩]
      have f2 : (flT a w ⟨p, bad, 0⟩).why = w := by unfold flT; rw [if_pos ⟨rfl, hw⟩]
      rw [f1, f2, e0] at hfl
      rw [hr] at hn
      simp only [outR] at hn
      simp +contextual -dsimp (disch := omega) only [↓kDown, kUp, ↓goDown, goUp, cr, simprocAttr, e0, hn, hw', hfl] <;> rfl
  · have hy' : (((why : Nat) : Int) = 0) = False := eq_false (by omega)
    rw [if_neg hy]
    simp +contextual -dsimp (disch := omega) only [↓kDown, kUp, ↓goDown, goUp, cr, simprocAttr, hy'] <;> rfl) hc
end Go.Proofs.YthidcpkcfoldmaaGreat.Pi.Q
namespace Go.Proofs.YthidcpkcfoldmaaGreat.Pi.Q
open Go Go.Proofs.YthidcpkcfoldmaaGreat.Pi
attribute [local congr] ite_congr
variable {c : Nat} {H : Heap} {L : List Box} {b : List UInt8} {z : Bool} {p bad why : Nat}
theorem rvalS (hb : b.length < 2 ^ 61) (hp : p ≤ b.length) (hc : c < List.length H) : runK c (C u2m [.ptr c 0]) (St H c (.cells [BS z b, .int .i64 p, .int .i64 bad, .int .i64 why]) L) = some (.ok (.agg [.int .i64 (tk (⟨0, false, 0⟩ : VT) (rVal b) ⟨p, bad, why⟩).1.num, .bool (tk (⟨0, false, 0⟩ : VT) (rVal b) ⟨p, bad, why⟩).1.nul, .int .i64 (tk (⟨0, false, 0⟩ : VT) (rVal b) ⟨p, bad, why⟩).1.heap]) (St H c (.cells [BS z b, .int .i64 ((tk (⟨0, false, 0⟩ : VT) (rVal b) ⟨p, bad, why⟩).2.p : Nat), .int .i64 ((tk (⟨0, false, 0⟩ : VT) (rVal b) ⟨p, bad, why⟩).2.bad : Nat), .int .i64 ((tk (⟨0, false, 0⟩ : VT) (rVal b) ⟨p, bad, why⟩).2.why : Nat)]) L)) := liftT (fun H hc => by
  have hn : ∀ K, run (C u0p [BS z b, .int .i64 p]) K = some (.ok (outR encV (encV ⟨0, false, 0⟩) (rVal b p)) K) := fun K => by
    have := und (H := K) (z := z) hb (at_ := (p : Int))
    unfold atPl at this
    rw [if_neg (by omega), Int.toNat_natCast] at this
    exact this
  rw [u90]
  unfold tk
  simp only
  have e0 : ((0 : Nat) : Int) = 0 := rfl
  by_cases hy : why = 0
  · subst hy
    rw [if_pos rfl]
    cases hr : rVal b p with
    | ok v q =>
      rw [hr] at hn
      simp only [outR, encV] at hn
      simp +contextual -dsimp (disch := omega) only [↓kDown, kUp, ↓goDown, goUp, cr, simprocAttr, e0, hn] <;> rfl
    | err a w =>
      have hw := uk5 hr
      have hw' : (((w : Nat) : Int) = 0) = False := eq_false (by omega)
      have hfl := fun L => rfailS (c := c) (H := H) (L := L) (b := b) (z := z) (p := p) (bad := bad) (why := 0) (a := a) (w := w) hw hc
      have f1 : (flT a w ⟨p, bad, 0⟩).bad = a := by unfold flT; rw [if_pos ⟨rfl, hw⟩]
      have f2 : (flT a w ⟨p, bad, 0⟩).why = w := by unfold flT; rw [if_pos ⟨rfl, hw⟩]
      rw [f1, f2, e0] at hfl
      rw [hr] at hn
      simp only [outR, encV] at hn
      simp +contextual -dsimp (disch := omega) only [↓kDown, kUp, ↓goDown, goUp, cr, simprocAttr, e0, hn, hw', hfl] <;> rfl
  · have hy' : (((why : Nat) : Int) = 0) = False := eq_false (by omega)
    rw [if_neg hy]
    simp +contextual -dsimp (disch := omega) only [↓kDown, kUp, ↓goDown, goUp, cr, simprocAttr, hy'] <;> rfl) hc
theorem uun (hb : b.length < 2 ^ 61) (hp : p ≤ b.length) (hc : c < List.length H) : runK c (C u33 [.ptr c 0]) (St H c (.cells [BS z b, .int .i64 p, .int .i64 bad, .int .i64 why]) L) = some (.ok (.agg [.int .i64 (tk (⟨0, ⟨0, false, 0⟩⟩ : BK) (rBlock b) ⟨p, bad, why⟩).1.ty, .int .i64 (tk (⟨0, ⟨0, false, 0⟩⟩ : BK) (rBlock b) ⟨p, bad, why⟩).1.res.num, .bool (tk (⟨0, ⟨0, false, 0⟩⟩ : BK) (rBlock b) ⟨p, bad, why⟩).1.res.nul, .int .i64 (tk (⟨0, ⟨0, false, 0⟩⟩ : BK) (rBlock b) ⟨p, bad, why⟩).1.res.heap]) (St H c (.cells [BS z b, .int .i64 ((tk (⟨0, ⟨0, false, 0⟩⟩ : BK) (rBlock b) ⟨p, bad, why⟩).2.p : Nat), .int .i64 ((tk (⟨0, ⟨0, false, 0⟩⟩ : BK) (rBlock b) ⟨p, bad, why⟩).2.bad : Nat), .int .i64 ((tk (⟨0, ⟨0, false, 0⟩⟩ : BK) (rBlock b) ⟨p, bad, why⟩).2.why : Nat)]) L)) := liftT (fun H hc => by
  have hn : ∀ K, run (C u0j [BS z b, .int .i64 p]) K = some (.ok (outR encB (encB ⟨0, ⟨0, false, 0⟩⟩) (rBlock b p)) K) := fun K => by
    have := ujy (H := K) (z := z) hb (at_ := (p : Int))
    unfold atPl at this
    rw [if_neg (by omega), Int.toNat_natCast] at this
    exact this
  rw [u8g]
  unfold tk
  simp only
  have e0 : ((0 : Nat) : Int) = 0 := rfl
  by_cases hy : why = 0
  · subst hy
    rw [if_pos rfl]
    cases hr : rBlock b p with
    | ok v q =>
      rw [hr] at hn
      simp only [outR, encB] at hn
      simp +contextual -dsimp (disch := omega) only [↓kDown, kUp, ↓goDown, goUp, cr, simprocAttr, e0, hn] <;> rfl
    | err a w =>
      have hw := uit hr
      have hw' : (((w : Nat) : Int) = 0) = False := eq_false (by omega)
      have hfl := fun L => rfailS (c := c) (H := H) (L := L) (b := b) (z := z) (p := p) (bad := bad) (why := 0) (a := a) (w := w) hw hc
      have f1 : (flT a w ⟨p, bad, 0⟩).bad = a := by unfold flT; rw [if_pos ⟨rfl, hw⟩]
      have f2 : (flT a w ⟨p, bad, 0⟩).why = w := by unfold flT; rw [if_pos ⟨rfl, hw⟩]
      rw [f1, f2, e0] at hfl
      rw [hr] at hn
      simp only [outR, encB] at hn
      simp +contextual -dsimp (disch := omega) only [↓kDown, kUp, ↓goDown, goUp, cr, simprocAttr, e0, hn, hw', hfl] <;> rfl
  · have hy' : (((why : Nat) : Int) = 0) = False := eq_false (by omega)
    rw [if_neg hy]
    simp +contextual -dsimp (disch := omega) only [↓kDown, kUp, ↓goDown, goUp, cr, simprocAttr, hy'] <;> rfl) hc
end Go.Proofs.YthidcpkcfoldmaaGreat.Pi.Q
namespace Go.Proofs.YthidcpkcfoldmaaGreat.Pi.Q
open Go Go.Proofs.YthidcpkcfoldmaaGreat.Pi
theorem ul8 {b : List UInt8} {B e : Nat} : ∀ (f i n p : Nat) a, lebU b B e f i n p = .err a 4 → p ≤ a
  | 0, i, n, p, a, h => by cases h; exact Nat.le_refl _
  | f + 1, i, n, p, a, h => by
    unfold lebU at h
    by_cases h1 : p < e
    · simp only [if_pos h1] at h
      by_cases h2 : B < 7 * i + 7 ∧ (b.getD p 0).toNat / 2 ^ (B - 7 * i) ≠ 0
      · simp only [if_pos h2] at h; cases h; exact Nat.le_refl _
      · simp only [if_neg h2] at h
        by_cases h3 : (b.getD p 0).toNat < 128
        · simp only [if_pos h3] at h; cases h
        · simp only [if_neg h3] at h
          have := ul8 f (i + 1) _ (p + 1) a h
          omega
    · simp only [if_neg h1] at h; cases h
theorem una {b : List UInt8} {e p a : Nat} (h : rdU b 32 e p = .err a 4) : p < a := by
  unfold rdU at h
  unfold lebU at h
  by_cases h1 : p < e
  · simp only [if_pos h1] at h
    have h2 : ¬ (32 < 7 * 0 + 7 ∧ (b.getD p 0).toNat / 2 ^ (32 - 7 * 0) ≠ 0) := by omega
    simp only [if_neg h2] at h
    by_cases h3 : (b.getD p 0).toNat < 128
    · simp only [if_pos h3] at h; cases h
    · simp only [if_neg h3] at h
      have := ul8 9 (0 + 1) _ (p + 1) a h
      omega
  · simp only [if_neg h1] at h; cases h
end Go.Proofs.YthidcpkcfoldmaaGreat.Pi.Q
namespace Go.Proofs.YthidcpkcfoldmaaGreat.Pi.Q
open Go Go.Proofs.YthidcpkcfoldmaaGreat.Pi
attribute [local congr] ite_congr
variable {c : Nat} {H : Heap} {L : List Box} {b : List UInt8} {z : Bool} {p bad why : Nat}
def rm1 (b : List UInt8) (t : TS) : TS := if (tk (0 : Nat) (rdU b 32 b.length) t).2.why = 0 ∧ 127 < (tk (0 : Nat) (rdU b 32 b.length) t).1 then ⟨(tk (0 : Nat) (rdU b 32 b.length) t).2.p, t.p, 4⟩ else (tk (0 : Nat) (rdU b 32 b.length) t).2
def rm2 (b : List UInt8) (t : TS) : Nat × TS := if 64 ≤ (tk (0 : Nat) (rdU b 32 b.length) t).1 then tk (0 : Nat) (rdU b 32 b.length) (rm1 b t) else (0, rm1 b t)
def rmAl (b : List UInt8) (t : TS) : Nat := if 64 ≤ (tk (0 : Nat) (rdU b 32 b.length) t).1 then (tk (0 : Nat) (rdU b 32 b.length) t).1 - 64 else (tk (0 : Nat) (rdU b 32 b.length) t).1
theorem rm1_le {t : TS} (ht : t.p ≤ b.length) : (rm1 b t).p ≤ b.length := by
  unfold rm1
  split
  · exact tkU_le ht
  · exact tkU_le ht
theorem rm2_le {t : TS} (ht : t.p ≤ b.length) : (rm2 b t).2.p ≤ b.length := by
  unfold rm2
  split
  · exact tkU_le (rm1_le ht)
  · exact rm1_le ht
theorem rmemS (hb : b.length < 2 ^ 61) (hp : p ≤ b.length) (hc : c < List.length H) : runK c (C u2j [.ptr c 0]) (St H c (.cells [BS z b, .int .i64 p, .int .i64 bad, .int .i64 why]) L) = some (.ok (.agg [.int .u32 (rmAl b ⟨p, bad, why⟩ : Nat), .int .u32 ((rm2 b ⟨p, bad, why⟩).1 : Nat), .int .u64 ((tk (0 : Nat) (rdU b 64 b.length) (rm2 b ⟨p, bad, why⟩).2).1 : Nat)]) (St H c (.cells [BS z b, .int .i64 ((tk (0 : Nat) (rdU b 64 b.length) (rm2 b ⟨p, bad, why⟩).2).2.p : Nat), .int .i64 ((tk (0 : Nat) (rdU b 64 b.length) (rm2 b ⟨p, bad, why⟩).2).2.bad : Nat), .int .i64 ((tk (0 : Nat) (rdU b 64 b.length) (rm2 b ⟨p, bad, why⟩).2).2.why : Nat)]) L)) := liftT (fun H hc => by
  have hu := fun L => ru32S (c := c) (H := H) (L := L) (b := b) (z := z) (p := p) (bad := bad) (why := why) hb hp hc
  have h1 := rm1_le (b := b) (t := ⟨p, bad, why⟩) hp
  have h2 := rm2_le (b := b) (t := ⟨p, bad, why⟩) hp
  have hlt := tkU_lt (b := b) (t := ⟨p, bad, why⟩)
  have hu2 := fun L => ru32S (c := c) (H := H) (L := L) (b := b) (z := z) (p := (rm1 b ⟨p, bad, why⟩).p) (bad := (rm1 b ⟨p, bad, why⟩).bad) (why := (rm1 b ⟨p, bad, why⟩).why) hb h1 hc
  have hu3 := fun L => rU64S (c := c) (H := H) (L := L) (b := b) (z := z) (p := (rm2 b ⟨p, bad, why⟩).2.p) (bad := (rm2 b ⟨p, bad, why⟩).2.bad) (why := (rm2 b ⟨p, bad, why⟩).2.why) hb h2 hc
  simp only [TS.eta] at hu2 hu3
  rw [u92]
  unfold rmAl rm2 at *
  generalize ho : tk (0 : Nat) (rdU b 32 b.length) ⟨p, bad, why⟩ = o at hu hlt h2 hu3 ⊢
  have fl : (o.2.why = 0 ∧ 127 < o.1) → ∀ L, runK c (C u0d [.ptr c 0, .int .i64 p, .int .i64 4]) (St H c (.cells [BS z b, .int .i64 o.2.p, .int .i64 o.2.bad, .int .i64 o.2.why]) L) = some (.ok (.tup []) (St H c (.cells [BS z b, .int .i64 (rm1 b ⟨p, bad, why⟩).p, .int .i64 (rm1 b ⟨p, bad, why⟩).bad, .int .i64 (rm1 b ⟨p, bad, why⟩).why]) L)) := fun h L => by
    have e : rm1 b ⟨p, bad, why⟩ = ⟨o.2.p, p, 4⟩ := by unfold rm1; rw [ho, if_pos h]
    have hfl := rfailS (c := c) (H := H) (L := L) (b := b) (z := z) (p := o.2.p) (bad := o.2.bad) (why := o.2.why) (a := p) (w := 4) (by decide) hc
    rw [e]
    have f : flT p 4 ⟨o.2.p, o.2.bad, o.2.why⟩ = ⟨o.2.p, p, 4⟩ := by unfold flT; rw [if_pos ⟨h.1, by decide⟩]
    rw [f] at hfl
    exact hfl
  have nf : ¬ (o.2.why = 0 ∧ 127 < o.1) → rm1 b ⟨p, bad, why⟩ = o.2 := fun h => by unfold rm1; rw [ho, if_neg h]
  by_cases h64 : 64 ≤ o.1
  · have h64' : (64 : Int) ≤ (o.1 : Int) := by omega
    have e64 : ((o.1 : Nat) : Int) - 64 = ((o.1 - 64 : Nat) : Int) := by omega
    have w64 : IntKind.u32.wrap ((o.1 - 64 : Nat) : Int) = ((o.1 - 64 : Nat) : Int) := w_u32 (by omega)
    simp only [if_pos h64] at hu3 ⊢
    by_cases hw : o.2.why = 0
    · have hw' : (((o.2.why : Nat) : Int) = 0) = True := eq_true (by omega)
      by_cases h128 : 127 < o.1
      · have h128' : (128 : Int) ≤ (o.1 : Int) := by omega
        have hfl := fl ⟨hw, h128⟩
        simp +contextual -dsimp (disch := omega) only [↓kDown, kUp, ↓goDown, goUp, cr, simprocAttr, hu, hw', eq_true h128', hfl, u17, eq_true h64', e64, w64, hu2, u13, hu3]
      · have h128' : ¬ (128 : Int) ≤ (o.1 : Int) := by omega
        have e := nf (fun h => h128 h.2)
        rw [e] at hu2 hu3 ⊢
        simp +contextual -dsimp (disch := omega) only [↓kDown, kUp, ↓goDown, goUp, cr, simprocAttr, hu, hw', h128', u17, eq_true h64', e64, w64, hu2, u13, hu3]
    · have hw' : (((o.2.why : Nat) : Int) = 0) = False := eq_false (by omega)
      have e := nf (fun h => hw h.1)
      rw [e] at hu2 hu3 ⊢
      simp +contextual -dsimp (disch := omega) only [↓kDown, kUp, ↓goDown, goUp, cr, simprocAttr, hu, hw', u17, eq_true h64', e64, w64, hu2, u13, hu3]
  · have h64' : ¬ (64 : Int) ≤ (o.1 : Int) := by omega
    have h128' : ¬ (128 : Int) ≤ (o.1 : Int) := by omega
    simp only [if_neg h64] at hu3 ⊢
    have e := nf (fun h => h64 (by omega))
    rw [e] at hu3 ⊢
    by_cases hw : o.2.why = 0
    · have hw' : (((o.2.why : Nat) : Int) = 0) = True := eq_true (by omega)
      simp +contextual -dsimp (disch := omega) only [↓kDown, kUp, ↓goDown, goUp, cr, simprocAttr, hu, hw', h128', u17, h64', u13, hu3] <;> rfl
    · have hw' : (((o.2.why : Nat) : Int) = 0) = False := eq_false (by omega)
      simp +contextual -dsimp (disch := omega) only [↓kDown, kUp, ↓goDown, goUp, cr, simprocAttr, hu, hw', u17, h64', u13, hu3] <;> rfl) hc
end Go.Proofs.YthidcpkcfoldmaaGreat.Pi.Q
namespace Go.Proofs.YthidcpkcfoldmaaGreat.Pi.Q
open Go Go.Proofs.YthidcpkcfoldmaaGreat.Pi
attribute [local congr] ite_congr
variable {c : Nat} {H : Heap} {L : List Box} {b : List UInt8} {z : Bool} {p bad why : Nat}
def repE {α : Type} (one : TS → α × TS) : Nat → List α → TS → List α × TS
  | 0, l, t => (l, t)
  | k + 1, l, t => if t.why = 0 then repE one k (l ++ [(one t).1]) (one t).2 else (l, t)
theorem upz {sz : Nat} {l : List PV} : isTup (accP sz l) = false := by cases l <;> rfl
theorem uag {n : Nat} (hb : b.length < 2 ^ 61) (hn : n ≤ 65536) : ∀ (m i : Nat) (l : List CN) (v2 : PV) (p bad why : Nat) (L : List Box) (H : Heap), i + m = n → l.length + m ≤ 100000 → p ≤ b.length → c < List.length H →
    ∃ L', runK c (u12 (.ptr c 0) v2 (.int .i64 n) (accP 3 (l.map encCN)) (.int .i64 i)) (St H c (.cells [BS z b, .int .i64 p, .int .i64 bad, .int .i64 why]) L) = some (.ok (accP 3 ((repE (clT b) m l ⟨p, bad, why⟩).1.map encCN)) (St H c (.cells [BS z b, .int .i64 ((repE (clT b) m l ⟨p, bad, why⟩).2.p : Nat), .int .i64 ((repE (clT b) m l ⟨p, bad, why⟩).2.bad : Nat), .int .i64 ((repE (clT b) m l ⟨p, bad, why⟩).2.why : Nat)]) L'))
  | 0, i, l, v2, p, bad, why, L, H, hi, hl, hp, hc => by
    have c1 : ¬ (i : Int) < (n : Int) := by omega
    refine ⟨L, ?_⟩
    rw [u27]
    simp only [repE]
    simp +contextual -dsimp (disch := omega) only [↓kDown, kUp, ↓goDown, goUp, cr, simprocAttr, c1, upz, Bool.false_eq_true]
  | m + 1, i, l, v2, p, bad, why, L, H, hi, hl, hp, hc => by
    have c1 : (i : Int) < (n : Int) := by omega
    have e1 : ((i : Int) + 1) = ((i + 1 : Nat) : Int) := rfl
    have hw : IntKind.i64.wrap ((i + 1 : Nat) : Int) = ((i + 1 : Nat) : Int) := w_i64 (by omega)
    by_cases hwy : why = 0
    rotate_left
    · have hw0 : (((why : Nat) : Int) = 0) = False := eq_false (by omega)
      refine ⟨L, ?_⟩
      rw [u27]
      simp only [repE, if_neg hwy]
      simp +contextual -dsimp (disch := omega) only [↓kDown, kUp, ↓goDown, goUp, cr, simprocAttr, c1, hw0, upz, Bool.false_eq_true]
    have hw0 : (((why : Nat) : Int) = 0) = True := eq_true (by omega)
    rw [u51 hc]
    have hS : ∀ x L', St H c x (L ++ L') = St (hadd H L) c x L' := fun x L' => (St_out rfl hc).symm
    have hc' : c < List.length (hadd H L) := by rw [u7l]; omega
    suffices hh : ∃ L', runK c (u12 (.ptr c 0) v2 (.int .i64 n) (accP 3 (l.map encCN)) (.int .i64 i)) (St (hadd H L) c (.cells [BS z b, .int .i64 p, .int .i64 bad, .int .i64 why]) []) = some (.ok (accP 3 ((repE (clT b) (m + 1) l ⟨p, bad, why⟩).1.map encCN)) (St (hadd H L) c (.cells [BS z b, .int .i64 ((repE (clT b) (m + 1) l ⟨p, bad, why⟩).2.p : Nat), .int .i64 ((repE (clT b) (m + 1) l ⟨p, bad, why⟩).2.bad : Nat), .int .i64 ((repE (clT b) (m + 1) l ⟨p, bad, why⟩).2.why : Nat)]) L')) by
      obtain ⟨L', h⟩ := hh
      exact ⟨L ++ L', by rw [hS]; exact h⟩
    generalize hadd H L = K at hc' ⊢
    have hs := fun L => usk (c := c) (H := K) (L := L) (b := b) (z := z) (p := p) (bad := bad) (why := why) (most := 3) (by decide) hb hp hc'
    rw [show ((3 : Nat) : Int) = 3 from rfl] at hs
    have s1 : (smT b 3 ⟨p, bad, why⟩).2.p ≤ b.length := smT_le hp
    have sl : (smT b 3 ⟨p, bad, why⟩).1 < 256 := smT_lt
    have g1 : (tagT b ⟨p, bad, why⟩).2.p ≤ b.length := unh hp
    have l1 : (clT b ⟨p, bad, why⟩).2.p ≤ b.length := clT_le hp
    have hg := fun L => ru32S (c := c) (H := K) (L := L) (b := b) (z := z) (p := (smT b 3 ⟨p, bad, why⟩).2.p) (bad := (smT b 3 ⟨p, bad, why⟩).2.bad) (why := (smT b 3 ⟨p, bad, why⟩).2.why) hb s1 hc'
    simp only [TS.eta] at hg
    rw [u27]
    simp only [repE, if_pos hwy]
    by_cases hk : (smT b 3 ⟨p, bad, why⟩).1 < 2
    · have hk' : (((smT b 3 ⟨p, bad, why⟩).1 : Nat) : Int) < 2 := by omega
      have et : (tagT b ⟨p, bad, why⟩) = (tk (0 : Nat) (rdU b 32 b.length) (smT b 3 ⟨p, bad, why⟩).2) := by unfold tagT; rw [if_pos hk]
      have ec : (clT b ⟨p, bad, why⟩) = (((smT b 3 ⟨p, bad, why⟩).1, (tk (0 : Nat) (rdU b 32 b.length) (smT b 3 ⟨p, bad, why⟩).2).1, (tk (0 : Nat) (rdU b 32 b.length) (tk (0 : Nat) (rdU b 32 b.length) (smT b 3 ⟨p, bad, why⟩).2).2).1), (tk (0 : Nat) (rdU b 32 b.length) (tk (0 : Nat) (rdU b 32 b.length) (smT b 3 ⟨p, bad, why⟩).2).2).2) := by unfold clT; rw [et]
      rw [et] at g1
      have hx := fun L => ru32S (c := c) (H := K) (L := L) (b := b) (z := z) (p := (tk (0 : Nat) (rdU b 32 b.length) (smT b 3 ⟨p, bad, why⟩).2).2.p) (bad := (tk (0 : Nat) (rdU b 32 b.length) (smT b 3 ⟨p, bad, why⟩).2).2.bad) (why := (tk (0 : Nat) (rdU b 32 b.length) (smT b 3 ⟨p, bad, why⟩).2).2.why) hb g1 hc'
      simp only [TS.eta] at hx
      rw [ec] at l1 ⊢
      simp only at l1 ⊢
      obtain ⟨L', ih⟩ := uag hb hn m (i + 1) (l ++ [((smT b 3 ⟨p, bad, why⟩).1, (tk (0 : Nat) (rdU b 32 b.length) (smT b 3 ⟨p, bad, why⟩).2).1, (tk (0 : Nat) (rdU b 32 b.length) (tk (0 : Nat) (rdU b 32 b.length) (smT b 3 ⟨p, bad, why⟩).2).2).1)]) v2 (tk (0 : Nat) (rdU b 32 b.length) (tk (0 : Nat) (rdU b 32 b.length) (smT b 3 ⟨p, bad, why⟩).2).2).2.p (tk (0 : Nat) (rdU b 32 b.length) (tk (0 : Nat) (rdU b 32 b.length) (smT b 3 ⟨p, bad, why⟩).2).2).2.bad (tk (0 : Nat) (rdU b 32 b.length) (tk (0 : Nat) (rdU b 32 b.length) (smT b 3 ⟨p, bad, why⟩).2).2).2.why [.cells [.int .i64 (smT b 3 ⟨p, bad, why⟩).1, .int .u32 (tk (0 : Nat) (rdU b 32 b.length) (smT b 3 ⟨p, bad, why⟩).2).1, .int .u32 (tk (0 : Nat) (rdU b 32 b.length) (tk (0 : Nat) (rdU b 32 b.length) (smT b 3 ⟨p, bad, why⟩).2).2).1]] K (by omega) (by simp; omega) l1 hc'
      rw [TS.eta] at ih
      refine ⟨L', ?_⟩
      simp +contextual -dsimp (disch := omega) only [↓kDown, kUp, ↓goDown, goUp, cr, simprocAttr, c1, hw0, hs, eq_true hk', hg, hx, u2u, bsR_c, ap_C', u2l, u3m, low_Pa, e1, hw, ih]
    · have hk' : ¬ (((smT b 3 ⟨p, bad, why⟩).1 : Nat) : Int) < 2 := by omega
      have et : (tagT b ⟨p, bad, why⟩) = (0, (smT b 3 ⟨p, bad, why⟩).2) := by unfold tagT; rw [if_neg hk]
      have ec : (clT b ⟨p, bad, why⟩) = (((smT b 3 ⟨p, bad, why⟩).1, 0, (tk (0 : Nat) (rdU b 32 b.length) (smT b 3 ⟨p, bad, why⟩).2).1), (tk (0 : Nat) (rdU b 32 b.length) (smT b 3 ⟨p, bad, why⟩).2).2) := by unfold clT; rw [et]
      rw [ec] at l1 ⊢
      simp only at l1 ⊢
      have hx := hg
      obtain ⟨L', ih⟩ := uag hb hn m (i + 1) (l ++ [((smT b 3 ⟨p, bad, why⟩).1, 0, (tk (0 : Nat) (rdU b 32 b.length) (smT b 3 ⟨p, bad, why⟩).2).1)]) v2 (tk (0 : Nat) (rdU b 32 b.length) (smT b 3 ⟨p, bad, why⟩).2).2.p (tk (0 : Nat) (rdU b 32 b.length) (smT b 3 ⟨p, bad, why⟩).2).2.bad (tk (0 : Nat) (rdU b 32 b.length) (smT b 3 ⟨p, bad, why⟩).2).2.why [.cells [.int .i64 (smT b 3 ⟨p, bad, why⟩).1, .int .u32 0, .int .u32 (tk (0 : Nat) (rdU b 32 b.length) (smT b 3 ⟨p, bad, why⟩).2).1]] K (by omega) (by simp; omega) l1 hc'
      have hap := fun K => ap_C (l := l) (K := K) (v := ((smT b 3 ⟨p, bad, why⟩).1, 0, (tk (0 : Nat) (rdU b 32 b.length) (smT b 3 ⟨p, bad, why⟩).2).1)) (by omega)
      simp only [show ((0 : Nat) : Int) = 0 from rfl] at hap
      rw [TS.eta] at ih
      refine ⟨L', ?_⟩
      simp +contextual -dsimp (disch := omega) only [↓kDown, kUp, ↓goDown, goUp, cr, simprocAttr, c1, hw0, hs, hk', hx, u2u, bsR_c, ap_C', u2l, u3m, low_Pa, hap, bsR_c0, e1, hw, ih]
theorem uti (hb : b.length < 2 ^ 61) (hp : p ≤ b.length) (hc : c < List.length H) : runK c (C u1u [.ptr c 0]) (St H c (.cells [BS z b, .int .i64 p, .int .i64 bad, .int .i64 why]) L) = some (.ok (accP 3 ((repE (clT b) (upT b 65536 2 ⟨p, bad, why⟩).1 [] (upT b 65536 2 ⟨p, bad, why⟩).2).1.map encCN)) (St H c (.cells [BS z b, .int .i64 ((repE (clT b) (upT b 65536 2 ⟨p, bad, why⟩).1 [] (upT b 65536 2 ⟨p, bad, why⟩).2).2.p : Nat), .int .i64 ((repE (clT b) (upT b 65536 2 ⟨p, bad, why⟩).1 [] (upT b 65536 2 ⟨p, bad, why⟩).2).2.bad : Nat), .int .i64 ((repE (clT b) (upT b 65536 2 ⟨p, bad, why⟩).1 [] (upT b 65536 2 ⟨p, bad, why⟩).2).2.why : Nat)]) L)) := liftT (fun H hc => by
  have hu := fun L => rfewS (c := c) (H := H) (L := L) (b := b) (z := z) (p := p) (bad := bad) (why := why) (most := 65536) hb hp hc
  rw [show ((65536 : Nat) : Int) = 65536 from rfl] at hu
  have u1 : (upT b 65536 2 ⟨p, bad, why⟩).2.p ≤ b.length := upT_le hp
  have ul : (upT b 65536 2 ⟨p, bad, why⟩).1 ≤ 65536 := upT_lt
  obtain ⟨L', hlp⟩ := uag (c := c) (z := z) (n := (upT b 65536 2 ⟨p, bad, why⟩).1) hb ul (upT b 65536 2 ⟨p, bad, why⟩).1 0 [] (.slice false true 0 []) (upT b 65536 2 ⟨p, bad, why⟩).2.p (upT b 65536 2 ⟨p, bad, why⟩).2.bad (upT b 65536 2 ⟨p, bad, why⟩).2.why [] H (by omega) (by simp; omega) u1 hc
  rw [show ((0 : Nat) : Int) = 0 from rfl, show accP 3 (List.map encCN []) = .slice false true 0 [] from rfl] at hlp
  simp only [TS.eta] at hlp hu
  rw [u83]
  simp +contextual -dsimp (disch := omega) only [↓kDown, kUp, ↓goDown, goUp, cr, simprocAttr, hu, hlp, u2l, u3m, low_Pa]) hc
end Go.Proofs.YthidcpkcfoldmaaGreat.Pi.Q
namespace Go.Proofs.YthidcpkcfoldmaaGreat.Pi.Q
open Go Go.Proofs.YthidcpkcfoldmaaGreat.Pi
attribute [local congr] ite_congr
variable {c : Nat} {H : Heap} {L : List Box} {b : List UInt8} {z : Bool} {p bad why : Nat}
theorem uld : ByteArray.toList ⟨#[]⟩ = [] := u6k (a := [])
def wordS (k : Nat) : ByteArray := ⟨List.toArray (word k)⟩
theorem u0n {k : Nat} : (wordS k).toList = word k := u6k
theorem u0x : ByteArray.toList ⟨#[98, 108, 111, 99, 107]⟩ = word 2 ∧ ByteArray.toList ⟨#[116, 114, 121]⟩ = word 3 ∧ ByteArray.toList ⟨#[120]⟩ = word 4 ∧ ByteArray.toList ⟨#[120, 121]⟩ = word 5 ∧ ByteArray.toList ⟨#[116, 97, 98, 108, 101]⟩ = word 6 ∧ ByteArray.toList ⟨#[115, 101, 108, 101, 99, 116]⟩ = word 7 ∧ ByteArray.toList ⟨#[109, 101, 109]⟩ = word 8 ∧ ByteArray.toList ⟨#[105, 51, 50]⟩ = word 9 ∧ ByteArray.toList ⟨#[105, 54, 52]⟩ = word 10 ∧ ByteArray.toList ⟨#[102, 51, 50]⟩ = word 11 ∧ ByteArray.toList ⟨#[102, 54, 52]⟩ = word 12 ∧ ByteArray.toList ⟨#[104, 101, 97, 112]⟩ = word 13 ∧ ByteArray.toList ⟨#[99, 97, 115, 116]⟩ = word 14 ∧ ByteArray.toList ⟨#[98, 114, 95, 99, 97, 115, 116]⟩ = word 15 ∧ ByteArray.toList ⟨#[120, 110]⟩ = word 16 := by
  refine ⟨?_, ?_, ?_, ?_, ?_, ?_, ?_, ?_, ?_, ?_, ?_, ?_, ?_, ?_, ?_⟩ <;> exact u6k
theorem uwr : ∀ i ∈ List.range 17, ∀ j ∈ List.range 17, word i = word j → i = j := by decide +kernel
theorem u25 {i j : Nat} (hi : i < 17) (hj : j < 17) : (word i = word j) = (i = j) := propext ⟨uwr i (List.mem_range.mpr hi) j (List.mem_range.mpr hj), fun h => by rw [h]⟩
theorem uzy : ∀ k ∈ List.range 17, k ≠ 0 → word k ≠ [] := by decide +kernel
theorem word_0 {k : Nat} (h : k < 17) : word k = [] ↔ k = 0 :=
  ⟨fun e => Classical.byContradiction fun h0 => uzy k (List.mem_range.mpr h) h0 e, fun e => by rw [e]; rfl⟩
theorem flT_no {a w : Nat} {t : TS} (h : t.why ≠ 0) : flT a w t = t := by unfold flT; rw [if_neg (fun g => h g.1)]
theorem flT_ok {a w : Nat} {t : TS} (h : t.why = 0) (hw : w ≠ 0) : flT a w t = ⟨t.p, a, w⟩ := by unfold flT; rw [if_pos ⟨h, hw⟩]
theorem up0 {op a : Nat} {v2 : PV} (hop : op < 1048576) (hc : c < List.length H) : runK c (u1s (.ptr c 0) v2 (.int .i64 a) (.int .i64 op)) (St H c (.cells [BS z b, .int .i64 p, .int .i64 bad, .int .i64 why]) []) = some (.ok (.int .i64 (op : Nat)) (St H c (.cells [BS z b, .int .i64 ((fmT a op ⟨p, bad, why⟩).p : Nat), .int .i64 ((fmT a op ⟨p, bad, why⟩).bad : Nat), .int .i64 ((fmT a op ⟨p, bad, why⟩).why : Nat)]) [])) := by
  have hform : ∀ K, run (C u08 [.int .i64 (op : Nat)]) K = some (.ok (.str ⟨List.toArray (word (formN op))⟩) K) := fun K => by
    rw [ujq (by omega) (by omega), uk0]
  have hfl := fun L => rfailS (c := c) (H := H) (L := L) (b := b) (z := z) (p := p) (bad := bad) (why := why) (a := a) (w := 4) (by decide) hc
  rw [show ((4 : Nat) : Int) = 4 from rfl] at hfl
  have hlt := ufp op
  rw [u6l]
  unfold fmT
  by_cases h0 : formN op = 0
  · have q : (word (formN op) = []) = True := eq_true ((word_0 hlt).mpr h0)
    have e3 : (flT a 4 ⟨p, bad, why⟩).p = p := flT_p
    rw [if_pos h0, e3]
    simp +contextual -dsimp (disch := omega) only [↓kDown, kUp, ↓goDown, goUp, cr, simprocAttr, toK (m := C u08 [.int .i64 (op : Nat)]), hform, u6k, uld, q, decide_true, hfl, u3v]
  · have q : (word (formN op) = []) = False := eq_false (fun h => h0 ((word_0 hlt).mp h))
    rw [if_neg h0]
    simp +contextual -dsimp (disch := omega) only [↓kDown, kUp, ↓goDown, goUp, cr, simprocAttr, toK (m := C u08 [.int .i64 (op : Nat)]), hform, u6k, uld, q, decide_false, u3v]
def op2T (b : List UInt8) (t : TS) : TS := if (tk (0 : Nat) (rdU b 32 b.length) (smT b 255 t).2).2.why = 0 ∧ 255 < (tk (0 : Nat) (rdU b 32 b.length) (smT b 255 t).2).1 then ⟨(tk (0 : Nat) (rdU b 32 b.length) (smT b 255 t).2).2.p, t.p, 4⟩ else (tk (0 : Nat) (rdU b 32 b.length) (smT b 255 t).2).2
def opcR (b : List UInt8) (t : TS) : Nat × TS :=
  if (smT b 255 t).2.why = 0 then
    if (smT b 255 t).1 = 253 then (0, flT t.p 8 (smT b 255 t).2)
    else if (smT b 255 t).1 = 251 ∨ (smT b 255 t).1 = 252 then
      (256 * (smT b 255 t).1 + (tk (0 : Nat) (rdU b 32 b.length) (smT b 255 t).2).1 % 256, fmT t.p (256 * (smT b 255 t).1 + (tk (0 : Nat) (rdU b 32 b.length) (smT b 255 t).2).1 % 256) (op2T b t))
    else ((smT b 255 t).1, fmT t.p (smT b 255 t).1 (smT b 255 t).2)
  else (0, (smT b 255 t).2)
theorem uym {t : TS} (ht : t.p ≤ b.length) : tk (0 : Nat) (rdF b 1 b.length) t = smT b 255 t := by
  have h := smT_F (b := b) (most := 255) (t := t) ht
  have l : (tk (0 : Nat) (rdF b 1 b.length) t).1 < 256 := by
    have := smT_lt (b := b) (most := 255) (t := t)
    rw [h] at this
    split at this
    · exact this
    · exact this
  rw [h, if_neg (fun g => by omega)]
theorem ropcS (hb : b.length < 2 ^ 61) (hp : p ≤ b.length) (hc : c < List.length H) : runK c (C u1i [.ptr c 0]) (St H c (.cells [BS z b, .int .i64 p, .int .i64 bad, .int .i64 why]) L) = some (.ok (.int .i64 ((opcR b ⟨p, bad, why⟩).1 : Nat)) (St H c (.cells [BS z b, .int .i64 ((opcR b ⟨p, bad, why⟩).2.p : Nat), .int .i64 ((opcR b ⟨p, bad, why⟩).2.bad : Nat), .int .i64 ((opcR b ⟨p, bad, why⟩).2.why : Nat)]) L)) := liftT (fun H hc => by
  have hs := fun L => rF1S (c := c) (H := H) (L := L) (b := b) (z := z) (p := p) (bad := bad) (why := why) hb hp hc
  rw [uym hp] at hs
  have sl : (smT b 255 ⟨p, bad, why⟩).1 < 256 := smT_lt
  have s1 : (smT b 255 ⟨p, bad, why⟩).2.p ≤ b.length := smT_le hp
  have hu := fun L => ru32S (c := c) (H := H) (L := L) (b := b) (z := z) (p := (smT b 255 ⟨p, bad, why⟩).2.p) (bad := (smT b 255 ⟨p, bad, why⟩).2.bad) (why := (smT b 255 ⟨p, bad, why⟩).2.why) hb s1 hc
  simp only [TS.eta] at hu
  rw [u88]
  unfold opcR op2T
  generalize (smT b 255 ⟨p, bad, why⟩) = o at hs sl s1 hu ⊢
  obtain ⟨n, ⟨p1, bad1, why1⟩⟩ := o
  simp only at hs sl s1 hu ⊢
  by_cases h1 : why1 = 0
  · have h1' : (((why1 : Nat) : Int) = 0) = True := eq_true (by omega)
    rw [if_pos h1]
    by_cases hd : n = 253
    · have hd' : (((n : Nat) : Int) = 253) = True := eq_true (by omega)
      have hfl := fun L => rfailS (c := c) (H := H) (L := L) (b := b) (z := z) (p := p1) (bad := bad1) (why := why1) (a := p) (w := 8) (by decide) hc
      rw [show ((8 : Nat) : Int) = 8 from rfl] at hfl
      have e3 : (flT p 8 ⟨p1, bad1, why1⟩).p = p1 := flT_p
      rw [if_pos hd, e3]
      simp +contextual -dsimp (disch := omega) only [↓kDown, kUp, ↓goDown, goUp, cr, simprocAttr, hs, h1', hd', hfl] <;> rfl
    · have hd' : (((n : Nat) : Int) = 253) = False := eq_false (by omega)
      rw [if_neg hd]
      by_cases ht : n = 251 ∨ n = 252
      · rw [if_pos ht]
        have lt2 := tkU_lt (b := b) (t := ⟨p1, bad1, why1⟩)
        generalize (tk (0 : Nat) (rdU b 32 b.length) ⟨p1, bad1, why1⟩) = u at hu lt2 ⊢
        obtain ⟨k, ⟨p2, bad2, why2⟩⟩ := u
        simp only at hu lt2 ⊢
        have he := fun (op : Nat) (hop : op < 1048576) (q bad why : Nat) => up0 (c := c) (H := H) (b := b) (z := z) (p := q) (bad := bad) (why := why) (op := op) (v2 := .int .i64 0) (a := p) hop hc
        have er : ((k : Int)).tmod 256 = ((k % 256 : Nat) : Int) := by rw [Int.tmod_eq_emod_of_nonneg (by omega)]; omega
        have wr : IntKind.u32.wrap ((k % 256 : Nat) : Int) = ((k % 256 : Nat) : Int) := w_u32 (by omega)
        have wm : IntKind.i64.wrap (256 * (n : Int)) = ((256 * n : Nat) : Int) := by rw [w_i64 (by omega)]; omega
        have ea : ((256 * n : Nat) : Int) + ((k % 256 : Nat) : Int) = ((256 * n + k % 256 : Nat) : Int) := by omega
        have wa : IntKind.i64.wrap ((256 * n + k % 256 : Nat) : Int) = ((256 * n + k % 256 : Nat) : Int) := w_i64 (by omega)
        have he' := he (256 * n + k % 256) (by omega)
        by_cases h2 : why2 = 0
        · have h2' : (((why2 : Nat) : Int) = 0) = True := eq_true (by omega)
          by_cases h3 : 255 < k
          · have h3' : ((256 : Int) ≤ (k : Int)) = True := eq_true (by omega)
            have hfl := fun L => rfailS (c := c) (H := H) (L := L) (b := b) (z := z) (p := p2) (bad := bad2) (why := why2) (a := p) (w := 4) (by decide) hc
            rw [show ((4 : Nat) : Int) = 4 from rfl, flT_ok h2 (by decide)] at hfl
            simp only [show ((4 : Nat) : Int) = 4 from rfl] at hfl
            have he4 := he' p2 p 4
            rw [show ((4 : Nat) : Int) = 4 from rfl] at he4
            rw [if_pos ⟨h2, h3⟩]
            rcases ht with ht | ht
            · have n1 : (((n : Nat) : Int) = 251) = True := eq_true (by omega)
              have n2 : (((n : Nat) : Int) = 252) = False := eq_false (by omega)
              simp +contextual -dsimp (disch := omega) only [↓kDown, kUp, ↓goDown, goUp, cr, simprocAttr, hs, h1', hd', hu, h2', h3', hfl, u0h, u91, er, wr, wm, ea, wa, he4, n1, n2]
            · have n1 : (((n : Nat) : Int) = 251) = False := eq_false (by omega)
              have n2 : (((n : Nat) : Int) = 252) = True := eq_true (by omega)
              simp +contextual -dsimp (disch := omega) only [↓kDown, kUp, ↓goDown, goUp, cr, simprocAttr, hs, h1', hd', hu, h2', h3', hfl, u0h, u91, er, wr, wm, ea, wa, he4, n1, n2]
          · have h3' : ((256 : Int) ≤ (k : Int)) = False := eq_false (by omega)
            rw [if_neg (fun g => h3 g.2)]
            rcases ht with ht | ht
            · have n1 : (((n : Nat) : Int) = 251) = True := eq_true (by omega)
              have n2 : (((n : Nat) : Int) = 252) = False := eq_false (by omega)
              simp +contextual -dsimp (disch := omega) only [↓kDown, kUp, ↓goDown, goUp, cr, simprocAttr, hs, h1', hd', hu, h2', h3', u0h, u91, er, wr, wm, ea, wa, he', n1, n2]
            · have n1 : (((n : Nat) : Int) = 251) = False := eq_false (by omega)
              have n2 : (((n : Nat) : Int) = 252) = True := eq_true (by omega)
              simp +contextual -dsimp (disch := omega) only [↓kDown, kUp, ↓goDown, goUp, cr, simprocAttr, hs, h1', hd', hu, h2', h3', u0h, u91, er, wr, wm, ea, wa, he', n1, n2]
        · have h2' : (((why2 : Nat) : Int) = 0) = False := eq_false (by omega)
          rw [if_neg (fun g => h2 g.1)]
          rcases ht with ht | ht
          · have n1 : (((n : Nat) : Int) = 251) = True := eq_true (by omega)
            have n2 : (((n : Nat) : Int) = 252) = False := eq_false (by omega)
            simp +contextual -dsimp (disch := omega) only [↓kDown, kUp, ↓goDown, goUp, cr, simprocAttr, hs, h1', hd', hu, h2', u0h, u91, er, wr, wm, ea, wa, he', n1, n2]
          · have n1 : (((n : Nat) : Int) = 251) = False := eq_false (by omega)
            have n2 : (((n : Nat) : Int) = 252) = True := eq_true (by omega)
            simp +contextual -dsimp (disch := omega) only [↓kDown, kUp, ↓goDown, goUp, cr, simprocAttr, hs, h1', hd', hu, h2', u0h, u91, er, wr, wm, ea, wa, he', n1, n2]
      · have n1 : (((n : Nat) : Int) = 251) = False := eq_false (by omega)
        have n2 : (((n : Nat) : Int) = 252) = False := eq_false (by omega)
        have he := up0 (c := c) (H := H) (b := b) (z := z) (p := p1) (bad := bad1) (why := why1) (op := n) (v2 := .int .i64 0) (a := p) (by omega) hc
        rw [if_neg ht]
        simp +contextual -dsimp (disch := omega) only [↓kDown, kUp, ↓goDown, goUp, cr, simprocAttr, hs, h1', hd', n1, n2, he]
  · have h1' : (((why1 : Nat) : Int) = 0) = False := eq_false (by omega)
    rw [if_neg h1]
    simp +contextual -dsimp (disch := omega) only [↓kDown, kUp, ↓goDown, goUp, cr, simprocAttr, hs, h1'] <;> rfl) hc
end Go.Proofs.YthidcpkcfoldmaaGreat.Pi.Q
namespace Go.Proofs.YthidcpkcfoldmaaGreat.Pi.Q
open Go Go.Proofs.YthidcpkcfoldmaaGreat.Pi
attribute [local congr] ite_congr
variable {c : Nat} {H : Heap} {L : List Box} {b : List UInt8} {z : Bool} {p bad why : Nat}
theorem u6i {op k : Nat} (hop : op < 1048576) (hk : formN op = k) : run (C u08 [.int .i64 (op : Nat)]) H = some (.ok (.str (wordS k)) H) := by
  rw [ujq (by omega) (by omega), uk0, hk]
  rfl
theorem uzt {nul : Bool} {h : Int} {K : Heap} : run (C u3c [.bool nul, .int .i64 h]) K = some (.ok (.agg [.int .i64 5, .bool nul, .int .i64 h]) K) := by
  rw [ud3]
  simp +contextual -dsimp (disch := omega) only [↓goDown, goUp, cr, simprocAttr]
theorem rref_K {nul : Bool} {h : Int} {K : Heap} : runK c (C u3c [.bool nul, .int .i64 h]) K = some (.ok (.agg [.int .i64 5, .bool nul, .int .i64 h]) K) := by
  unfold runK
  rw [uzt]
  rfl
theorem bsR_V2 {n m : Bool} {h k : Int} {K : Heap} : bsR true (some 3) [.agg [.int .i64 5, .bool n, .int .i64 h], .agg [.int .i64 5, .bool m, .int .i64 k]] K = some (.ok (.slice true false 3 [.agg [.int .i64 5, .bool n, .int .i64 h], .agg [.int .i64 5, .bool m, .int .i64 k]]) K) := nrfl rfl
theorem u64_nn (n : Int) : 0 ≤ IntKind.u64.wrap n := by
  unfold IntKind.wrap
  simp only [IntKind.signed, IntKind.bits]
  exact Int.emod_nonneg _ (by decide)
theorem uyg {op : Nat} (hk : formN op = 0) (hop : op < 1048576) (hb : b.length < 2 ^ 61) (hp : p ≤ b.length) (hc : c < List.length H) : runK c (C u04 [.ptr c 0, .int .i64 (op : Nat)]) (St H c (.cells [BS z b, .int .i64 p, .int .i64 bad, .int .i64 why]) L) = some (.ok (.agg [.int .i64 (op : Nat), .int .u32 0, .int .u32 0, .int .u64 0, .int .u32 0, .int .u32 0, .int .u64 0, .int .i64 0, .int .i64 0, .bool false, .int .i64 0, .slice false true 0 [], .slice false true 0 [], .bool false, .slice false true 0 [], .slice false true 0 [], .slice false true 0 []]) (St H c (.cells [BS z b, .int .i64 p, .int .i64 bad, .int .i64 why]) L)) := liftT (fun H hc => by
  have hform := fun K => u6i (H := K) hop hk
  rw [u0a]
  simp +contextual -dsimp (disch := omega) only [↓kDown, kUp, ↓goDown, goUp, cr, simprocAttr, toK (m := C u08 [.int .i64 (op : Nat)]), hform, u0n, u0x, u25, u02]) hc
theorem v001 {op : Nat} (hk : formN op = 1) (hop : op < 1048576) (hb : b.length < 2 ^ 61) (hp : p ≤ b.length) (hc : c < List.length H) : runK c (C u04 [.ptr c 0, .int .i64 (op : Nat)]) (St H c (.cells [BS z b, .int .i64 p, .int .i64 bad, .int .i64 why]) L) = some (.ok (.agg [.int .i64 (op : Nat), .int .u32 0, .int .u32 0, .int .u64 0, .int .u32 0, .int .u32 0, .int .u64 0, .int .i64 0, .int .i64 0, .bool false, .int .i64 0, .slice false true 0 [], .slice false true 0 [], .bool false, .slice false true 0 [], .slice false true 0 [], .slice false true 0 []]) (St H c (.cells [BS z b, .int .i64 p, .int .i64 bad, .int .i64 why]) L)) := liftT (fun H hc => by
  have hform := fun K => u6i (H := K) hop hk
  rw [u0a]
  simp +contextual -dsimp (disch := omega) only [↓kDown, kUp, ↓goDown, goUp, cr, simprocAttr, toK (m := C u08 [.int .i64 (op : Nat)]), hform, u0n, u0x, u25, u02]) hc
theorem v000 {op : Nat} (hk : formN op = 2) (hop : op < 1048576) (hb : b.length < 2 ^ 61) (hp : p ≤ b.length) (hc : c < List.length H) : runK c (C u04 [.ptr c 0, .int .i64 (op : Nat)]) (St H c (.cells [BS z b, .int .i64 p, .int .i64 bad, .int .i64 why]) L) = some (.ok (.agg [.int .i64 (op : Nat), .int .u32 0, .int .u32 0, .int .u64 0, .int .u32 0, .int .u32 0, .int .u64 0, .int .i64 (tk (⟨0, ⟨0, false, 0⟩⟩ : BK) (rBlock b) ⟨p, bad, why⟩).1.ty, .int .i64 (tk (⟨0, ⟨0, false, 0⟩⟩ : BK) (rBlock b) ⟨p, bad, why⟩).1.res.num, .bool (tk (⟨0, ⟨0, false, 0⟩⟩ : BK) (rBlock b) ⟨p, bad, why⟩).1.res.nul, .int .i64 (tk (⟨0, ⟨0, false, 0⟩⟩ : BK) (rBlock b) ⟨p, bad, why⟩).1.res.heap, .slice false true 0 [], .slice false true 0 [], .bool false, .slice false true 0 [], .slice false true 0 [], .slice false true 0 []]) (St H c (.cells [BS z b, .int .i64 ((tk (⟨0, ⟨0, false, 0⟩⟩ : BK) (rBlock b) ⟨p, bad, why⟩).2.p : Nat), .int .i64 ((tk (⟨0, ⟨0, false, 0⟩⟩ : BK) (rBlock b) ⟨p, bad, why⟩).2.bad : Nat), .int .i64 ((tk (⟨0, ⟨0, false, 0⟩⟩ : BK) (rBlock b) ⟨p, bad, why⟩).2.why : Nat)]) L)) := liftT (fun H hc => by
  have hform := fun K => u6i (H := K) hop hk
  have hu := fun L => uun (c := c) (H := H) (L := L) (b := b) (z := z) (p := p) (bad := bad) (why := why) hb hp hc
  rw [u0a]
  simp +contextual -dsimp (disch := omega) only [↓kDown, kUp, ↓goDown, goUp, cr, simprocAttr, toK (m := C u08 [.int .i64 (op : Nat)]), hform, u0n, u0x, u25, hu, u02]) hc
theorem uzh {op : Nat} (hk : formN op = 4) (hop : op < 1048576) (hb : b.length < 2 ^ 61) (hp : p ≤ b.length) (hc : c < List.length H) : runK c (C u04 [.ptr c 0, .int .i64 (op : Nat)]) (St H c (.cells [BS z b, .int .i64 p, .int .i64 bad, .int .i64 why]) L) = some (.ok (.agg [.int .i64 (op : Nat), .int .u32 ((tk (0 : Nat) (rdU b 32 b.length) ⟨p, bad, why⟩).1 : Nat), .int .u32 0, .int .u64 0, .int .u32 0, .int .u32 0, .int .u64 0, .int .i64 0, .int .i64 0, .bool false, .int .i64 0, .slice false true 0 [], .slice false true 0 [], .bool false, .slice false true 0 [], .slice false true 0 [], .slice false true 0 []]) (St H c (.cells [BS z b, .int .i64 ((tk (0 : Nat) (rdU b 32 b.length) ⟨p, bad, why⟩).2.p : Nat), .int .i64 ((tk (0 : Nat) (rdU b 32 b.length) ⟨p, bad, why⟩).2.bad : Nat), .int .i64 ((tk (0 : Nat) (rdU b 32 b.length) ⟨p, bad, why⟩).2.why : Nat)]) L)) := liftT (fun H hc => by
  have hform := fun K => u6i (H := K) hop hk
  have hu := fun L => ru32S (c := c) (H := H) (L := L) (b := b) (z := z) (p := p) (bad := bad) (why := why) hb hp hc
  rw [u0a]
  simp +contextual -dsimp (disch := omega) only [↓kDown, kUp, ↓goDown, goUp, cr, simprocAttr, toK (m := C u08 [.int .i64 (op : Nat)]), hform, u0n, u0x, u25, hu, u02]) hc
theorem uzw {op : Nat} (hk : formN op = 5) (hop : op < 1048576) (hb : b.length < 2 ^ 61) (hp : p ≤ b.length) (hc : c < List.length H) : runK c (C u04 [.ptr c 0, .int .i64 (op : Nat)]) (St H c (.cells [BS z b, .int .i64 p, .int .i64 bad, .int .i64 why]) L) = some (.ok (.agg [.int .i64 (op : Nat), .int .u32 ((tk (0 : Nat) (rdU b 32 b.length) ⟨p, bad, why⟩).1 : Nat), .int .u32 ((tk (0 : Nat) (rdU b 32 b.length) (tk (0 : Nat) (rdU b 32 b.length) ⟨p, bad, why⟩).2).1 : Nat), .int .u64 0, .int .u32 0, .int .u32 0, .int .u64 0, .int .i64 0, .int .i64 0, .bool false, .int .i64 0, .slice false true 0 [], .slice false true 0 [], .bool false, .slice false true 0 [], .slice false true 0 [], .slice false true 0 []]) (St H c (.cells [BS z b, .int .i64 ((tk (0 : Nat) (rdU b 32 b.length) (tk (0 : Nat) (rdU b 32 b.length) ⟨p, bad, why⟩).2).2.p : Nat), .int .i64 ((tk (0 : Nat) (rdU b 32 b.length) (tk (0 : Nat) (rdU b 32 b.length) ⟨p, bad, why⟩).2).2.bad : Nat), .int .i64 ((tk (0 : Nat) (rdU b 32 b.length) (tk (0 : Nat) (rdU b 32 b.length) ⟨p, bad, why⟩).2).2.why : Nat)]) L)) := liftT (fun H hc => by
  have hform := fun K => u6i (H := K) hop hk
  have hu := fun L => ru32S (c := c) (H := H) (L := L) (b := b) (z := z) (p := p) (bad := bad) (why := why) hb hp hc
  have u1 : (tk (0 : Nat) (rdU b 32 b.length) ⟨p, bad, why⟩).2.p ≤ b.length := tkU_le hp
  have hv := fun L => ru32S (c := c) (H := H) (L := L) (b := b) (z := z) (p := (tk (0 : Nat) (rdU b 32 b.length) ⟨p, bad, why⟩).2.p) (bad := (tk (0 : Nat) (rdU b 32 b.length) ⟨p, bad, why⟩).2.bad) (why := (tk (0 : Nat) (rdU b 32 b.length) ⟨p, bad, why⟩).2.why) hb u1 hc
  simp only [TS.eta] at hv
  rw [u0a]
  simp +contextual -dsimp (disch := omega) only [↓kDown, kUp, ↓goDown, goUp, cr, simprocAttr, toK (m := C u08 [.int .i64 (op : Nat)]), hform, u0n, u0x, u25, hu, hv, u02]) hc
theorem uzb {op : Nat} (hk : formN op = 8) (hop : op < 1048576) (hb : b.length < 2 ^ 61) (hp : p ≤ b.length) (hc : c < List.length H) : runK c (C u04 [.ptr c 0, .int .i64 (op : Nat)]) (St H c (.cells [BS z b, .int .i64 p, .int .i64 bad, .int .i64 why]) L) = some (.ok (.agg [.int .i64 (op : Nat), .int .u32 0, .int .u32 0, .int .u64 0, .int .u32 (rmAl b ⟨p, bad, why⟩ : Nat), .int .u32 ((rm2 b ⟨p, bad, why⟩).1 : Nat), .int .u64 ((tk (0 : Nat) (rdU b 64 b.length) (rm2 b ⟨p, bad, why⟩).2).1 : Nat), .int .i64 0, .int .i64 0, .bool false, .int .i64 0, .slice false true 0 [], .slice false true 0 [], .bool false, .slice false true 0 [], .slice false true 0 [], .slice false true 0 []]) (St H c (.cells [BS z b, .int .i64 ((tk (0 : Nat) (rdU b 64 b.length) (rm2 b ⟨p, bad, why⟩).2).2.p : Nat), .int .i64 ((tk (0 : Nat) (rdU b 64 b.length) (rm2 b ⟨p, bad, why⟩).2).2.bad : Nat), .int .i64 ((tk (0 : Nat) (rdU b 64 b.length) (rm2 b ⟨p, bad, why⟩).2).2.why : Nat)]) L)) := liftT (fun H hc => by
  have hform := fun K => u6i (H := K) hop hk
  have hu := fun L => rmemS (c := c) (H := H) (L := L) (b := b) (z := z) (p := p) (bad := bad) (why := why) hb hp hc
  rw [u0a]
  simp +contextual -dsimp (disch := omega) only [↓kDown, kUp, ↓goDown, goUp, cr, simprocAttr, toK (m := C u08 [.int .i64 (op : Nat)]), hform, u0n, u0x, u25, hu, u02]) hc
theorem v005 {op : Nat} (hk : formN op = 9) (hop : op < 1048576) (hb : b.length < 2 ^ 61) (hp : p ≤ b.length) (hc : c < List.length H) : runK c (C u04 [.ptr c 0, .int .i64 (op : Nat)]) (St H c (.cells [BS z b, .int .i64 p, .int .i64 bad, .int .i64 why]) L) = some (.ok (.agg [.int .i64 (op : Nat), .int .u32 0, .int .u32 0, .int .u64 ((IntKind.u64.wrap (tk (0 : Int) (rdS b 32 b.length) ⟨p, bad, why⟩).1) % 4294967296), .int .u32 0, .int .u32 0, .int .u64 0, .int .i64 0, .int .i64 0, .bool false, .int .i64 0, .slice false true 0 [], .slice false true 0 [], .bool false, .slice false true 0 [], .slice false true 0 [], .slice false true 0 []]) (St H c (.cells [BS z b, .int .i64 ((tk (0 : Int) (rdS b 32 b.length) ⟨p, bad, why⟩).2.p : Nat), .int .i64 ((tk (0 : Int) (rdS b 32 b.length) ⟨p, bad, why⟩).2.bad : Nat), .int .i64 ((tk (0 : Int) (rdS b 32 b.length) ⟨p, bad, why⟩).2.why : Nat)]) L)) := liftT (fun H hc => by
  have hform := fun K => u6i (H := K) hop hk
  have hu := fun L => rS32S (c := c) (H := H) (L := L) (b := b) (z := z) (p := p) (bad := bad) (why := why) hb hp hc
  have w0 : 0 ≤ IntKind.u64.wrap (tk (0 : Int) (rdS b 32 b.length) ⟨p, bad, why⟩).1 := u64_nn _
  have w1 : (IntKind.u64.wrap (tk (0 : Int) (rdS b 32 b.length) ⟨p, bad, why⟩).1).tmod 4294967296 = (IntKind.u64.wrap (tk (0 : Int) (rdS b 32 b.length) ⟨p, bad, why⟩).1) % 4294967296 := Int.tmod_eq_emod_of_nonneg w0
  have w2 : IntKind.u64.wrap ((IntKind.u64.wrap (tk (0 : Int) (rdS b 32 b.length) ⟨p, bad, why⟩).1) % 4294967296) = (IntKind.u64.wrap (tk (0 : Int) (rdS b 32 b.length) ⟨p, bad, why⟩).1) % 4294967296 := w_u64 (by omega)
  rw [u0a]
  simp +contextual -dsimp (disch := omega) only [↓kDown, kUp, ↓goDown, goUp, cr, simprocAttr, toK (m := C u08 [.int .i64 (op : Nat)]), hform, u0n, u0x, u25, hu, u91, w1, w2, u02]) hc
theorem uxw {op : Nat} (hk : formN op = 10) (hop : op < 1048576) (hb : b.length < 2 ^ 61) (hp : p ≤ b.length) (hc : c < List.length H) : runK c (C u04 [.ptr c 0, .int .i64 (op : Nat)]) (St H c (.cells [BS z b, .int .i64 p, .int .i64 bad, .int .i64 why]) L) = some (.ok (.agg [.int .i64 (op : Nat), .int .u32 0, .int .u32 0, .int .u64 (IntKind.u64.wrap (tk (0 : Int) (rdS b 64 b.length) ⟨p, bad, why⟩).1), .int .u32 0, .int .u32 0, .int .u64 0, .int .i64 0, .int .i64 0, .bool false, .int .i64 0, .slice false true 0 [], .slice false true 0 [], .bool false, .slice false true 0 [], .slice false true 0 [], .slice false true 0 []]) (St H c (.cells [BS z b, .int .i64 ((tk (0 : Int) (rdS b 64 b.length) ⟨p, bad, why⟩).2.p : Nat), .int .i64 ((tk (0 : Int) (rdS b 64 b.length) ⟨p, bad, why⟩).2.bad : Nat), .int .i64 ((tk (0 : Int) (rdS b 64 b.length) ⟨p, bad, why⟩).2.why : Nat)]) L)) := liftT (fun H hc => by
  have hform := fun K => u6i (H := K) hop hk
  have hu := fun L => rS64S (c := c) (H := H) (L := L) (b := b) (z := z) (p := p) (bad := bad) (why := why) hb hp hc
  rw [u0a]
  simp +contextual -dsimp (disch := omega) only [↓kDown, kUp, ↓goDown, goUp, cr, simprocAttr, toK (m := C u08 [.int .i64 (op : Nat)]), hform, u0n, u0x, u25, hu, u02]) hc
theorem uxg {op : Nat} (hk : formN op = 11) (hop : op < 1048576) (hb : b.length < 2 ^ 61) (hp : p ≤ b.length) (hc : c < List.length H) : runK c (C u04 [.ptr c 0, .int .i64 (op : Nat)]) (St H c (.cells [BS z b, .int .i64 p, .int .i64 bad, .int .i64 why]) L) = some (.ok (.agg [.int .i64 (op : Nat), .int .u32 0, .int .u32 0, .int .u64 ((tk (0 : Nat) (rdF b 4 b.length) ⟨p, bad, why⟩).1 : Nat), .int .u32 0, .int .u32 0, .int .u64 0, .int .i64 0, .int .i64 0, .bool false, .int .i64 0, .slice false true 0 [], .slice false true 0 [], .bool false, .slice false true 0 [], .slice false true 0 [], .slice false true 0 []]) (St H c (.cells [BS z b, .int .i64 ((tk (0 : Nat) (rdF b 4 b.length) ⟨p, bad, why⟩).2.p : Nat), .int .i64 ((tk (0 : Nat) (rdF b 4 b.length) ⟨p, bad, why⟩).2.bad : Nat), .int .i64 ((tk (0 : Nat) (rdF b 4 b.length) ⟨p, bad, why⟩).2.why : Nat)]) L)) := liftT (fun H hc => by
  have hform := fun K => u6i (H := K) hop hk
  have hu := fun L => rF4S (c := c) (H := H) (L := L) (b := b) (z := z) (p := p) (bad := bad) (why := why) hb hp hc
  rw [u0a]
  simp +contextual -dsimp (disch := omega) only [↓kDown, kUp, ↓goDown, goUp, cr, simprocAttr, toK (m := C u08 [.int .i64 (op : Nat)]), hform, u0n, u0x, u25, hu, u02]) hc
theorem uvv {op : Nat} (hk : formN op = 12) (hop : op < 1048576) (hb : b.length < 2 ^ 61) (hp : p ≤ b.length) (hc : c < List.length H) : runK c (C u04 [.ptr c 0, .int .i64 (op : Nat)]) (St H c (.cells [BS z b, .int .i64 p, .int .i64 bad, .int .i64 why]) L) = some (.ok (.agg [.int .i64 (op : Nat), .int .u32 0, .int .u32 0, .int .u64 ((tk (0 : Nat) (rdF b 8 b.length) ⟨p, bad, why⟩).1 : Nat), .int .u32 0, .int .u32 0, .int .u64 0, .int .i64 0, .int .i64 0, .bool false, .int .i64 0, .slice false true 0 [], .slice false true 0 [], .bool false, .slice false true 0 [], .slice false true 0 [], .slice false true 0 []]) (St H c (.cells [BS z b, .int .i64 ((tk (0 : Nat) (rdF b 8 b.length) ⟨p, bad, why⟩).2.p : Nat), .int .i64 ((tk (0 : Nat) (rdF b 8 b.length) ⟨p, bad, why⟩).2.bad : Nat), .int .i64 ((tk (0 : Nat) (rdF b 8 b.length) ⟨p, bad, why⟩).2.why : Nat)]) L)) := liftT (fun H hc => by
  have hform := fun K => u6i (H := K) hop hk
  have hu := fun L => rF8S (c := c) (H := H) (L := L) (b := b) (z := z) (p := p) (bad := bad) (why := why) hb hp hc
  rw [u0a]
  simp +contextual -dsimp (disch := omega) only [↓kDown, kUp, ↓goDown, goUp, cr, simprocAttr, toK (m := C u08 [.int .i64 (op : Nat)]), hform, u0n, u0x, u25, hu, u02]) hc
theorem uy0 {op : Nat} (hk : formN op = 13) (hop : op < 1048576) (hb : b.length < 2 ^ 61) (hp : p ≤ b.length) (hc : c < List.length H) : runK c (C u04 [.ptr c 0, .int .i64 (op : Nat)]) (St H c (.cells [BS z b, .int .i64 p, .int .i64 bad, .int .i64 why]) L) = some (.ok (.agg [.int .i64 (op : Nat), .int .u32 0, .int .u32 0, .int .u64 0, .int .u32 0, .int .u32 0, .int .u64 0, .int .i64 0, .int .i64 0, .bool false, .int .i64 0, .slice false true 0 [], .slice false true 0 [], .bool false, .slice false true 0 [], .slice false false 3 [.agg [.int .i64 5, .bool true, .int .i64 (tk (0 : Int) (rHeap b) ⟨p, bad, why⟩).1]], .slice false true 0 []]) (St H c (.cells [BS z b, .int .i64 ((tk (0 : Int) (rHeap b) ⟨p, bad, why⟩).2.p : Nat), .int .i64 ((tk (0 : Int) (rHeap b) ⟨p, bad, why⟩).2.bad : Nat), .int .i64 ((tk (0 : Int) (rHeap b) ⟨p, bad, why⟩).2.why : Nat)]) L)) := liftT (fun H hc => by
  have hform := fun K => u6i (H := K) hop hk
  have hu := fun L => rheapS (c := c) (H := H) (L := L) (b := b) (z := z) (p := p) (bad := bad) (why := why) hb hp hc
  rw [u0a]
  simp +contextual -dsimp (disch := omega) only [↓kDown, kUp, ↓goDown, goUp, cr, simprocAttr, toK (m := C u08 [.int .i64 (op : Nat)]), hform, u0n, u0x, u25, hu, rref_K, bsR_V, bsR_V2, u02]) hc
theorem uwd {op : Nat} (hk : formN op = 14) (hop : op < 1048576) (hb : b.length < 2 ^ 61) (hp : p ≤ b.length) (hc : c < List.length H) : runK c (C u04 [.ptr c 0, .int .i64 (op : Nat)]) (St H c (.cells [BS z b, .int .i64 p, .int .i64 bad, .int .i64 why]) L) = some (.ok (.agg [.int .i64 (op : Nat), .int .u32 0, .int .u32 0, .int .u64 0, .int .u32 0, .int .u32 0, .int .u64 0, .int .i64 0, .int .i64 0, .bool false, .int .i64 0, .slice false true 0 [], .slice false true 0 [], .bool false, .slice false true 0 [], .slice false false 3 [.agg [.int .i64 5, .bool (op % 2 == 1), .int .i64 (tk (0 : Int) (rHeap b) ⟨p, bad, why⟩).1]], .slice false true 0 []]) (St H c (.cells [BS z b, .int .i64 ((tk (0 : Int) (rHeap b) ⟨p, bad, why⟩).2.p : Nat), .int .i64 ((tk (0 : Int) (rHeap b) ⟨p, bad, why⟩).2.bad : Nat), .int .i64 ((tk (0 : Int) (rHeap b) ⟨p, bad, why⟩).2.why : Nat)]) L)) := liftT (fun H hc => by
  have hform := fun K => u6i (H := K) hop hk
  have hu := fun L => rheapS (c := c) (H := H) (L := L) (b := b) (z := z) (p := p) (bad := bad) (why := why) hb hp hc
  have e2 : ((op : Int)).tmod 2 = ((op % 2 : Nat) : Int) := by rw [Int.tmod_eq_emod_of_nonneg (by omega)]; omega
  have w2 : IntKind.i64.wrap ((op % 2 : Nat) : Int) = ((op % 2 : Nat) : Int) := w_i64 (by omega)
  have e3 : (((op % 2 : Nat) : Int) == 1) = (op % 2 == 1) := by rw [Bool.eq_iff_iff]; simp; omega
  rw [u0a]
  simp +contextual -dsimp (disch := omega) only [↓kDown, kUp, ↓goDown, goUp, cr, simprocAttr, toK (m := C u08 [.int .i64 (op : Nat)]), hform, u0n, u0x, u25, hu, rref_K, bsR_V, bsR_V2, u91, e2, w2, e3, u02]) hc
theorem uxn {op : Nat} (hk : formN op = 15) (hop : op < 1048576) (hb : b.length < 2 ^ 61) (hp : p ≤ b.length) (hc : c < List.length H) : runK c (C u04 [.ptr c 0, .int .i64 (op : Nat)]) (St H c (.cells [BS z b, .int .i64 p, .int .i64 bad, .int .i64 why]) L) = some (.ok (.agg [.int .i64 (op : Nat), .int .u32 ((tk (0 : Nat) (rdU b 32 b.length) (smT b 3 ⟨p, bad, why⟩).2).1 : Nat), .int .u32 0, .int .u64 0, .int .u32 0, .int .u32 0, .int .u64 0, .int .i64 0, .int .i64 0, .bool false, .int .i64 0, .slice false true 0 [], .slice false true 0 [], .bool false, .slice false true 0 [], .slice false false 3 [.agg [.int .i64 5, .bool ((smT b 3 ⟨p, bad, why⟩).1 % 2 == 1), .int .i64 (tk (0 : Int) (rHeap b) (tk (0 : Nat) (rdU b 32 b.length) (smT b 3 ⟨p, bad, why⟩).2).2).1], .agg [.int .i64 5, .bool (decide (2 ≤ (smT b 3 ⟨p, bad, why⟩).1)), .int .i64 (tk (0 : Int) (rHeap b) (tk (0 : Int) (rHeap b) (tk (0 : Nat) (rdU b 32 b.length) (smT b 3 ⟨p, bad, why⟩).2).2).2).1]], .slice false true 0 []]) (St H c (.cells [BS z b, .int .i64 ((tk (0 : Int) (rHeap b) (tk (0 : Int) (rHeap b) (tk (0 : Nat) (rdU b 32 b.length) (smT b 3 ⟨p, bad, why⟩).2).2).2).2.p : Nat), .int .i64 ((tk (0 : Int) (rHeap b) (tk (0 : Int) (rHeap b) (tk (0 : Nat) (rdU b 32 b.length) (smT b 3 ⟨p, bad, why⟩).2).2).2).2.bad : Nat), .int .i64 ((tk (0 : Int) (rHeap b) (tk (0 : Int) (rHeap b) (tk (0 : Nat) (rdU b 32 b.length) (smT b 3 ⟨p, bad, why⟩).2).2).2).2.why : Nat)]) L)) := liftT (fun H hc => by
  have hform := fun K => u6i (H := K) hop hk
  have hs := fun L => usk (c := c) (H := H) (L := L) (b := b) (z := z) (p := p) (bad := bad) (why := why) (most := 3) (by decide) hb hp hc
  rw [show ((3 : Nat) : Int) = 3 from rfl] at hs
  have u1 : (smT b 3 ⟨p, bad, why⟩).2.p ≤ b.length := smT_le hp
  have hx := fun L => ru32S (c := c) (H := H) (L := L) (b := b) (z := z) (p := (smT b 3 ⟨p, bad, why⟩).2.p) (bad := (smT b 3 ⟨p, bad, why⟩).2.bad) (why := (smT b 3 ⟨p, bad, why⟩).2.why) hb u1 hc
  simp only [TS.eta] at hx
  have u2 : (tk (0 : Nat) (rdU b 32 b.length) (smT b 3 ⟨p, bad, why⟩).2).2.p ≤ b.length := tkU_le u1
  have h1 := fun L => rheapS (c := c) (H := H) (L := L) (b := b) (z := z) (p := (tk (0 : Nat) (rdU b 32 b.length) (smT b 3 ⟨p, bad, why⟩).2).2.p) (bad := (tk (0 : Nat) (rdU b 32 b.length) (smT b 3 ⟨p, bad, why⟩).2).2.bad) (why := (tk (0 : Nat) (rdU b 32 b.length) (smT b 3 ⟨p, bad, why⟩).2).2.why) hb u2 hc
  simp only [TS.eta] at h1
  have u3 : (tk (0 : Int) (rHeap b) (tk (0 : Nat) (rdU b 32 b.length) (smT b 3 ⟨p, bad, why⟩).2).2).2.p ≤ b.length := tkH_le u2
  have h2 := fun L => rheapS (c := c) (H := H) (L := L) (b := b) (z := z) (p := (tk (0 : Int) (rHeap b) (tk (0 : Nat) (rdU b 32 b.length) (smT b 3 ⟨p, bad, why⟩).2).2).2.p) (bad := (tk (0 : Int) (rHeap b) (tk (0 : Nat) (rdU b 32 b.length) (smT b 3 ⟨p, bad, why⟩).2).2).2.bad) (why := (tk (0 : Int) (rHeap b) (tk (0 : Nat) (rdU b 32 b.length) (smT b 3 ⟨p, bad, why⟩).2).2).2.why) hb u3 hc
  simp only [TS.eta] at h2
  have e2 : (((smT b 3 ⟨p, bad, why⟩).1 : Int)).tmod 2 = (((smT b 3 ⟨p, bad, why⟩).1 % 2 : Nat) : Int) := by rw [Int.tmod_eq_emod_of_nonneg (by omega)]; omega
  have w2 : IntKind.u8.wrap (((smT b 3 ⟨p, bad, why⟩).1 % 2 : Nat) : Int) = (((smT b 3 ⟨p, bad, why⟩).1 % 2 : Nat) : Int) := w_u8 (by omega)
  have e3 : ((((smT b 3 ⟨p, bad, why⟩).1 % 2 : Nat) : Int) == 1) = ((smT b 3 ⟨p, bad, why⟩).1 % 2 == 1) := by rw [Bool.eq_iff_iff]; simp; omega
  have e4 : decide ((2 : Int) ≤ ((smT b 3 ⟨p, bad, why⟩).1 : Int)) = decide (2 ≤ (smT b 3 ⟨p, bad, why⟩).1) := by rw [Bool.eq_iff_iff]; simp; omega
  rw [u0a]
  simp +contextual -dsimp (disch := omega) only [↓kDown, kUp, ↓goDown, goUp, cr, simprocAttr, toK (m := C u08 [.int .i64 (op : Nat)]), hform, u0n, u0x, u25, hs, hx, h1, h2, rref_K, bsR_V, bsR_V2, u91, e2, w2, e3, e4, u02]) hc
theorem uxy {op : Nat} (hk : formN op = 16) (hop : op < 1048576) (hb : b.length < 2 ^ 61) (hp : p ≤ b.length) (hc : c < List.length H) : runK c (C u04 [.ptr c 0, .int .i64 (op : Nat)]) (St H c (.cells [BS z b, .int .i64 p, .int .i64 bad, .int .i64 why]) L) = some (.ok (.agg [.int .i64 (op : Nat), .int .u32 ((tk (0 : Nat) (rdU b 32 b.length) ⟨p, bad, why⟩).1 : Nat), .int .u32 0, .int .u64 ((tk (0 : Nat) (rdU b 32 b.length) (tk (0 : Nat) (rdU b 32 b.length) ⟨p, bad, why⟩).2).1 : Nat), .int .u32 0, .int .u32 0, .int .u64 0, .int .i64 0, .int .i64 0, .bool false, .int .i64 0, .slice false true 0 [], .slice false true 0 [], .bool false, .slice false true 0 [], .slice false true 0 [], .slice false true 0 []]) (St H c (.cells [BS z b, .int .i64 ((tk (0 : Nat) (rdU b 32 b.length) (tk (0 : Nat) (rdU b 32 b.length) ⟨p, bad, why⟩).2).2.p : Nat), .int .i64 ((tk (0 : Nat) (rdU b 32 b.length) (tk (0 : Nat) (rdU b 32 b.length) ⟨p, bad, why⟩).2).2.bad : Nat), .int .i64 ((tk (0 : Nat) (rdU b 32 b.length) (tk (0 : Nat) (rdU b 32 b.length) ⟨p, bad, why⟩).2).2.why : Nat)]) L)) := liftT (fun H hc => by
  have hform := fun K => u6i (H := K) hop hk
  have hu := fun L => ru32S (c := c) (H := H) (L := L) (b := b) (z := z) (p := p) (bad := bad) (why := why) hb hp hc
  have u1 : (tk (0 : Nat) (rdU b 32 b.length) ⟨p, bad, why⟩).2.p ≤ b.length := tkU_le hp
  have hv := fun L => ru32S (c := c) (H := H) (L := L) (b := b) (z := z) (p := (tk (0 : Nat) (rdU b 32 b.length) ⟨p, bad, why⟩).2.p) (bad := (tk (0 : Nat) (rdU b 32 b.length) ⟨p, bad, why⟩).2.bad) (why := (tk (0 : Nat) (rdU b 32 b.length) ⟨p, bad, why⟩).2.why) hb u1 hc
  simp only [TS.eta] at hv
  have w := w_u64 (n := ((tk (0 : Nat) (rdU b 32 b.length) (tk (0 : Nat) (rdU b 32 b.length) ⟨p, bad, why⟩).2).1 : Nat)) (by have := tkU_lt (b := b) (t := (tk (0 : Nat) (rdU b 32 b.length) ⟨p, bad, why⟩).2); omega)
  rw [u0a]
  simp +contextual -dsimp (disch := omega) only [↓kDown, kUp, ↓goDown, goUp, cr, simprocAttr, toK (m := C u08 [.int .i64 (op : Nat)]), hform, u0n, u0x, u25, hu, hv, w, u02]) hc
end Go.Proofs.YthidcpkcfoldmaaGreat.Pi.Q
namespace Go.Proofs.YthidcpkcfoldmaaGreat.Pi.Q
open Go Go.Proofs.YthidcpkcfoldmaaGreat.Pi
attribute [local congr] ite_congr
variable {c : Nat} {H : Heap} {L : List Box} {b : List UInt8} {z : Bool} {p bad why : Nat}
theorem uzq {op : Nat} (hk : formN op = 3) (hop : op < 1048576) (hb : b.length < 2 ^ 61) (hp : p ≤ b.length) (hc : c < List.length H) : runK c (C u04 [.ptr c 0, .int .i64 (op : Nat)]) (St H c (.cells [BS z b, .int .i64 p, .int .i64 bad, .int .i64 why]) L) = some (.ok (.agg [.int .i64 (op : Nat), .int .u32 0, .int .u32 0, .int .u64 0, .int .u32 0, .int .u32 0, .int .u64 0, .int .i64 (tk (⟨0, ⟨0, false, 0⟩⟩ : BK) (rBlock b) ⟨p, bad, why⟩).1.ty, .int .i64 (tk (⟨0, ⟨0, false, 0⟩⟩ : BK) (rBlock b) ⟨p, bad, why⟩).1.res.num, .bool (tk (⟨0, ⟨0, false, 0⟩⟩ : BK) (rBlock b) ⟨p, bad, why⟩).1.res.nul, .int .i64 (tk (⟨0, ⟨0, false, 0⟩⟩ : BK) (rBlock b) ⟨p, bad, why⟩).1.res.heap, .slice false true 0 [], .slice false true 0 [], .bool false, .slice false true 0 [], .slice false true 0 [], stripC (accP 3 ((repE (clT b) (upT b 65536 2 (tk (⟨0, ⟨0, false, 0⟩⟩ : BK) (rBlock b) ⟨p, bad, why⟩).2).1 [] (upT b 65536 2 (tk (⟨0, ⟨0, false, 0⟩⟩ : BK) (rBlock b) ⟨p, bad, why⟩).2).2).1.map encCN))]) (St H c (.cells [BS z b, .int .i64 ((repE (clT b) (upT b 65536 2 (tk (⟨0, ⟨0, false, 0⟩⟩ : BK) (rBlock b) ⟨p, bad, why⟩).2).1 [] (upT b 65536 2 (tk (⟨0, ⟨0, false, 0⟩⟩ : BK) (rBlock b) ⟨p, bad, why⟩).2).2).2.p : Nat), .int .i64 ((repE (clT b) (upT b 65536 2 (tk (⟨0, ⟨0, false, 0⟩⟩ : BK) (rBlock b) ⟨p, bad, why⟩).2).1 [] (upT b 65536 2 (tk (⟨0, ⟨0, false, 0⟩⟩ : BK) (rBlock b) ⟨p, bad, why⟩).2).2).2.bad : Nat), .int .i64 ((repE (clT b) (upT b 65536 2 (tk (⟨0, ⟨0, false, 0⟩⟩ : BK) (rBlock b) ⟨p, bad, why⟩).2).1 [] (upT b 65536 2 (tk (⟨0, ⟨0, false, 0⟩⟩ : BK) (rBlock b) ⟨p, bad, why⟩).2).2).2.why : Nat)]) L)) := liftT (fun H hc => by
  have hform := fun K => u6i (H := K) hop hk
  have hb1 := fun L => uun (c := c) (H := H) (L := L) (b := b) (z := z) (p := p) (bad := bad) (why := why) hb hp hc
  have u1 : (tk (⟨0, ⟨0, false, 0⟩⟩ : BK) (rBlock b) ⟨p, bad, why⟩).2.p ≤ b.length := tkB_le hp
  have hcl := fun L => uti (c := c) (H := H) (L := L) (b := b) (z := z) (p := (tk (⟨0, ⟨0, false, 0⟩⟩ : BK) (rBlock b) ⟨p, bad, why⟩).2.p) (bad := (tk (⟨0, ⟨0, false, 0⟩⟩ : BK) (rBlock b) ⟨p, bad, why⟩).2.bad) (why := (tk (⟨0, ⟨0, false, 0⟩⟩ : BK) (rBlock b) ⟨p, bad, why⟩).2.why) hb u1 hc
  simp only [TS.eta] at hcl
  rw [u0a]
  simp +contextual -dsimp (disch := omega) only [↓kDown, kUp, ↓goDown, goUp, cr, simprocAttr, toK (m := C u08 [.int .i64 (op : Nat)]), hform, u0n, u0x, u25, hb1, hcl, u2l, u3m, low_Pa, u6p, u7z, low_sa, u4t, u02]) hc
theorem ukv {op n : Nat} (hb : b.length < 2 ^ 61) (hn : n ≤ 65536) (hc : c < List.length H) : ∀ (m i : Nat) (l : List Nat) (p bad why : Nat), i + m = n → l.length + m ≤ 100000 → p ≤ b.length →
    runK c (u0y (.ptr c 0) (.ptr (List.length H) 0) (.ptr (List.length H + 1) 0) (.int .i64 n) (.int .i64 i)) (St H c (.cells [BS z b, .int .i64 p, .int .i64 bad, .int .i64 why]) [.cells [.int .i64 0, .int .u32 0, .int .u32 0, .int .u64 0, .int .u32 0, .int .u32 0, .int .u64 0, .int .i64 0, .int .i64 0, .bool false, .int .i64 0, .slice false true 0 [], .slice false true 0 [], .bool false, .slice false true 0 [], .slice false true 0 [], .slice false true 0 []], .cells [.int .i64 (op : Nat), .int .u32 0, .int .u32 0, .int .u64 0, .int .u32 0, .int .u32 0, .int .u64 0, .int .i64 0, .int .i64 0, .bool false, .int .i64 0, .slice false true 0 [], .slice false true 0 [], .bool false, accP 1 (l.map encN), .slice false true 0 [], .slice false true 0 []]]) = some (.ok (.agg [.int .i64 (op : Nat), .int .u32 ((tk (0 : Nat) (rdU b 32 b.length) (repE (tk (0 : Nat) (rdU b 32 b.length)) m l ⟨p, bad, why⟩).2).1 : Nat), .int .u32 0, .int .u64 0, .int .u32 0, .int .u32 0, .int .u64 0, .int .i64 0, .int .i64 0, .bool false, .int .i64 0, .slice false true 0 [], .slice false true 0 [], .bool false, stripC (accP 1 ((repE (tk (0 : Nat) (rdU b 32 b.length)) m l ⟨p, bad, why⟩).1.map encN)), .slice false true 0 [], .slice false true 0 []]) (St H c (.cells [BS z b, .int .i64 ((tk (0 : Nat) (rdU b 32 b.length) (repE (tk (0 : Nat) (rdU b 32 b.length)) m l ⟨p, bad, why⟩).2).2.p : Nat), .int .i64 ((tk (0 : Nat) (rdU b 32 b.length) (repE (tk (0 : Nat) (rdU b 32 b.length)) m l ⟨p, bad, why⟩).2).2.bad : Nat), .int .i64 ((tk (0 : Nat) (rdU b 32 b.length) (repE (tk (0 : Nat) (rdU b 32 b.length)) m l ⟨p, bad, why⟩).2).2.why : Nat)]) [.cells [.int .i64 (op : Nat), .int .u32 ((tk (0 : Nat) (rdU b 32 b.length) (repE (tk (0 : Nat) (rdU b 32 b.length)) m l ⟨p, bad, why⟩).2).1 : Nat), .int .u32 0, .int .u64 0, .int .u32 0, .int .u32 0, .int .u64 0, .int .i64 0, .int .i64 0, .bool false, .int .i64 0, .slice false true 0 [], .slice false true 0 [], .bool false, stripC (accP 1 ((repE (tk (0 : Nat) (rdU b 32 b.length)) m l ⟨p, bad, why⟩).1.map encN)), .slice false true 0 [], .slice false true 0 []], .cells [.int .i64 (op : Nat), .int .u32 ((tk (0 : Nat) (rdU b 32 b.length) (repE (tk (0 : Nat) (rdU b 32 b.length)) m l ⟨p, bad, why⟩).2).1 : Nat), .int .u32 0, .int .u64 0, .int .u32 0, .int .u32 0, .int .u64 0, .int .i64 0, .int .i64 0, .bool false, .int .i64 0, .slice false true 0 [], .slice false true 0 [], .bool false, accP 1 ((repE (tk (0 : Nat) (rdU b 32 b.length)) m l ⟨p, bad, why⟩).1.map encN), .slice false true 0 [], .slice false true 0 []]]))
  | 0, i, l, p, bad, why, hi, hl, hp => by
    have c1 : ¬ (i : Int) < (n : Int) := by omega
    have hx := fun L => ru32S (c := c) (H := H) (L := L) (b := b) (z := z) (p := p) (bad := bad) (why := why) hb hp hc
    rw [u1c]
    simp only [repE]
    simp +contextual -dsimp (disch := omega) only [↓kDown, kUp, ↓goDown, goUp, cr, simprocAttr, c1, hx, u02, u2l, u3m, low_Pa, u6p, u7z, low_sa, u4t]
  | m + 1, i, l, p, bad, why, hi, hl, hp => by
    have c1 : (i : Int) < (n : Int) := by omega
    have e1 : ((i : Int) + 1) = ((i + 1 : Nat) : Int) := rfl
    have hw : IntKind.i64.wrap ((i + 1 : Nat) : Int) = ((i + 1 : Nat) : Int) := w_i64 (by omega)
    by_cases hwy : why = 0
    rotate_left
    · have hw0 : (((why : Nat) : Int) = 0) = False := eq_false (by omega)
      have hx := fun L => ru32S (c := c) (H := H) (L := L) (b := b) (z := z) (p := p) (bad := bad) (why := why) hb hp hc
      rw [u1c]
      simp only [repE, if_neg hwy]
      simp +contextual -dsimp (disch := omega) only [↓kDown, kUp, ↓goDown, goUp, cr, simprocAttr, c1, hw0, hx, u02, u2l, u3m, low_Pa, u6p, u7z, low_sa, u4t]
    have hw0 : (((why : Nat) : Int) = 0) = True := eq_true (by omega)
    have hv := fun L => ru32S (c := c) (H := H) (L := L) (b := b) (z := z) (p := p) (bad := bad) (why := why) hb hp hc
    have hv' := fun L => uhl (hv L)
    have x1 : ((tk (0 : Nat) (rdU b 32 b.length)) ⟨p, bad, why⟩).2.p ≤ b.length := tkU_le hp
    have ih := ukv (op := op) hb hn hc m (i + 1) (l ++ [((tk (0 : Nat) (rdU b 32 b.length)) ⟨p, bad, why⟩).1]) ((tk (0 : Nat) (rdU b 32 b.length)) ⟨p, bad, why⟩).2.p ((tk (0 : Nat) (rdU b 32 b.length)) ⟨p, bad, why⟩).2.bad ((tk (0 : Nat) (rdU b 32 b.length)) ⟨p, bad, why⟩).2.why (by omega) (by simp; omega) x1
    simp only [TS.eta] at ih
    rw [u1c]
    simp only [repE, if_pos hwy]
    simp +contextual -dsimp (disch := omega) only [↓kDown, kUp, ↓goDown, goUp, cr, simprocAttr, c1, hw0, hv, hv', ap_lab, bsR_n, u2l, u3m, low_Pa, u6p, u7z, low_sa, u4t, e1, hw, ih]
theorem un6 {op n : Nat} (hb : b.length < 2 ^ 61) (hn : n ≤ 65536) (hc : c < List.length H) : ∀ (m i : Nat) (l : List VT) (p bad why : Nat), i + m = n → l.length + m ≤ 100000 → p ≤ b.length →
    runK c (u0u (.ptr c 0) (.ptr (List.length H) 0) (.ptr (List.length H + 1) 0) (.int .i64 n) (.int .i64 i)) (St H c (.cells [BS z b, .int .i64 p, .int .i64 bad, .int .i64 why]) [.cells [.int .i64 0, .int .u32 0, .int .u32 0, .int .u64 0, .int .u32 0, .int .u32 0, .int .u64 0, .int .i64 0, .int .i64 0, .bool false, .int .i64 0, .slice false true 0 [], .slice false true 0 [], .bool false, .slice false true 0 [], .slice false true 0 [], .slice false true 0 []], .cells [.int .i64 (op : Nat), .int .u32 0, .int .u32 0, .int .u64 0, .int .u32 0, .int .u32 0, .int .u64 0, .int .i64 0, .int .i64 0, .bool false, .int .i64 0, .slice false true 0 [], .slice false true 0 [], .bool false, .slice false true 0 [], accP 3 (l.map encV), .slice false true 0 []]]) = some (.ok (.agg [.int .i64 (op : Nat), .int .u32 0, .int .u32 0, .int .u64 0, .int .u32 0, .int .u32 0, .int .u64 0, .int .i64 0, .int .i64 0, .bool false, .int .i64 0, .slice false true 0 [], .slice false true 0 [], .bool false, .slice false true 0 [], stripC (accP 3 ((repE (tk valZ (rVal b)) m l ⟨p, bad, why⟩).1.map encV)), .slice false true 0 []]) (St H c (.cells [BS z b, .int .i64 ((repE (tk valZ (rVal b)) m l ⟨p, bad, why⟩).2.p : Nat), .int .i64 ((repE (tk valZ (rVal b)) m l ⟨p, bad, why⟩).2.bad : Nat), .int .i64 ((repE (tk valZ (rVal b)) m l ⟨p, bad, why⟩).2.why : Nat)]) [.cells [.int .i64 (op : Nat), .int .u32 0, .int .u32 0, .int .u64 0, .int .u32 0, .int .u32 0, .int .u64 0, .int .i64 0, .int .i64 0, .bool false, .int .i64 0, .slice false true 0 [], .slice false true 0 [], .bool false, .slice false true 0 [], stripC (accP 3 ((repE (tk valZ (rVal b)) m l ⟨p, bad, why⟩).1.map encV)), .slice false true 0 []], .cells [.int .i64 (op : Nat), .int .u32 0, .int .u32 0, .int .u64 0, .int .u32 0, .int .u32 0, .int .u64 0, .int .i64 0, .int .i64 0, .bool false, .int .i64 0, .slice false true 0 [], .slice false true 0 [], .bool false, .slice false true 0 [], accP 3 ((repE (tk valZ (rVal b)) m l ⟨p, bad, why⟩).1.map encV), .slice false true 0 []]]))
  | 0, i, l, p, bad, why, hi, hl, hp => by
    have c1 : ¬ (i : Int) < (n : Int) := by omega
    rw [u16]
    simp only [repE]
    simp +contextual -dsimp (disch := omega) only [↓kDown, kUp, ↓goDown, goUp, cr, simprocAttr, c1, u02, u2l, u3m, low_Pa, u6p, u7z, low_sa, u4t]
  | m + 1, i, l, p, bad, why, hi, hl, hp => by
    have c1 : (i : Int) < (n : Int) := by omega
    have e1 : ((i : Int) + 1) = ((i + 1 : Nat) : Int) := rfl
    have hw : IntKind.i64.wrap ((i + 1 : Nat) : Int) = ((i + 1 : Nat) : Int) := w_i64 (by omega)
    by_cases hwy : why = 0
    rotate_left
    · have hw0 : (((why : Nat) : Int) = 0) = False := eq_false (by omega)
      rw [u16]
      simp only [repE, if_neg hwy]
      simp +contextual -dsimp (disch := omega) only [↓kDown, kUp, ↓goDown, goUp, cr, simprocAttr, c1, hw0, u02, u2l, u3m, low_Pa, u6p, u7z, low_sa, u4t]
    have hw0 : (((why : Nat) : Int) = 0) = True := eq_true (by omega)
    have hv := fun L => rvalS (c := c) (H := H) (L := L) (b := b) (z := z) (p := p) (bad := bad) (why := why) hb hp hc
    simp only [show (⟨0, false, 0⟩ : VT) = valZ from rfl] at hv
    have hv' := fun L => uhl (hv L)
    have x1 : ((tk valZ (rVal b)) ⟨p, bad, why⟩).2.p ≤ b.length := tkV_le hp
    have ih := un6 (op := op) hb hn hc m (i + 1) (l ++ [((tk valZ (rVal b)) ⟨p, bad, why⟩).1]) ((tk valZ (rVal b)) ⟨p, bad, why⟩).2.p ((tk valZ (rVal b)) ⟨p, bad, why⟩).2.bad ((tk valZ (rVal b)) ⟨p, bad, why⟩).2.why (by omega) (by simp; omega) x1
    simp only [TS.eta] at ih
    rw [u16]
    simp only [repE, if_pos hwy]
    simp +contextual -dsimp (disch := omega) only [↓kDown, kUp, ↓goDown, goUp, cr, simprocAttr, c1, hw0, hv, hv', ap_V, bsR_v, u2l, u3m, low_Pa, u6p, u7z, low_sa, u4t, e1, hw, ih]
theorem uyi {op : Nat} (hk : formN op = 6) (hop : op < 1048576) (hb : b.length < 2 ^ 61) (hp : p ≤ b.length) (hc : c < List.length H) : runK c (C u04 [.ptr c 0, .int .i64 (op : Nat)]) (St H c (.cells [BS z b, .int .i64 p, .int .i64 bad, .int .i64 why]) L) = some (.ok (.agg [.int .i64 (op : Nat), .int .u32 ((tk (0 : Nat) (rdU b 32 b.length) (repE (tk (0 : Nat) (rdU b 32 b.length)) (upT b 65536 2 ⟨p, bad, why⟩).1 [] (upT b 65536 2 ⟨p, bad, why⟩).2).2).1 : Nat), .int .u32 0, .int .u64 0, .int .u32 0, .int .u32 0, .int .u64 0, .int .i64 0, .int .i64 0, .bool false, .int .i64 0, .slice false true 0 [], .slice false true 0 [], .bool false, stripC (accP 1 ((repE (tk (0 : Nat) (rdU b 32 b.length)) (upT b 65536 2 ⟨p, bad, why⟩).1 [] (upT b 65536 2 ⟨p, bad, why⟩).2).1.map encN)), .slice false true 0 [], .slice false true 0 []]) (St H c (.cells [BS z b, .int .i64 ((tk (0 : Nat) (rdU b 32 b.length) (repE (tk (0 : Nat) (rdU b 32 b.length)) (upT b 65536 2 ⟨p, bad, why⟩).1 [] (upT b 65536 2 ⟨p, bad, why⟩).2).2).2.p : Nat), .int .i64 ((tk (0 : Nat) (rdU b 32 b.length) (repE (tk (0 : Nat) (rdU b 32 b.length)) (upT b 65536 2 ⟨p, bad, why⟩).1 [] (upT b 65536 2 ⟨p, bad, why⟩).2).2).2.bad : Nat), .int .i64 ((tk (0 : Nat) (rdU b 32 b.length) (repE (tk (0 : Nat) (rdU b 32 b.length)) (upT b 65536 2 ⟨p, bad, why⟩).1 [] (upT b 65536 2 ⟨p, bad, why⟩).2).2).2.why : Nat)]) L)) := liftT (fun H hc => by
  have hform := fun K => u6i (H := K) hop hk
  have hu := fun L => rfewS (c := c) (H := H) (L := L) (b := b) (z := z) (p := p) (bad := bad) (why := why) (most := 65536) hb hp hc
  rw [show ((65536 : Nat) : Int) = 65536 from rfl] at hu
  have u1 : (upT b 65536 2 ⟨p, bad, why⟩).2.p ≤ b.length := upT_le hp
  have ul : (upT b 65536 2 ⟨p, bad, why⟩).1 ≤ 65536 := upT_lt
  have hl := ukv (c := c) (H := H) (z := z) (op := op) (n := (upT b 65536 2 ⟨p, bad, why⟩).1) hb (by omega) hc (upT b 65536 2 ⟨p, bad, why⟩).1 0 [] (upT b 65536 2 ⟨p, bad, why⟩).2.p (upT b 65536 2 ⟨p, bad, why⟩).2.bad (upT b 65536 2 ⟨p, bad, why⟩).2.why (by omega) (by simp; omega) u1
  rw [show ((0 : Nat) : Int) = 0 from rfl] at hl
  simp only [TS.eta, List.map_nil, show accP 1 [] = .slice false true 0 [] from rfl] at hl
  rw [u0a]
  simp +contextual -dsimp (disch := omega) only [↓kDown, kUp, ↓goDown, goUp, cr, simprocAttr, toK (m := C u08 [.int .i64 (op : Nat)]), hform, u0n, u0x, u25, hu, hl, u2l, u3m, low_Pa, u6p, u7z, low_sa, u4t, u02]) hc
theorem uya {op : Nat} (hk : formN op = 7) (hop : op < 1048576) (hb : b.length < 2 ^ 61) (hp : p ≤ b.length) (hc : c < List.length H) : runK c (C u04 [.ptr c 0, .int .i64 (op : Nat)]) (St H c (.cells [BS z b, .int .i64 p, .int .i64 bad, .int .i64 why]) L) = some (.ok (.agg [.int .i64 (op : Nat), .int .u32 0, .int .u32 0, .int .u64 0, .int .u32 0, .int .u32 0, .int .u64 0, .int .i64 0, .int .i64 0, .bool false, .int .i64 0, .slice false true 0 [], .slice false true 0 [], .bool false, .slice false true 0 [], stripC (accP 3 ((repE (tk valZ (rVal b)) (upT b 1000 2 ⟨p, bad, why⟩).1 [] (upT b 1000 2 ⟨p, bad, why⟩).2).1.map encV)), .slice false true 0 []]) (St H c (.cells [BS z b, .int .i64 ((repE (tk valZ (rVal b)) (upT b 1000 2 ⟨p, bad, why⟩).1 [] (upT b 1000 2 ⟨p, bad, why⟩).2).2.p : Nat), .int .i64 ((repE (tk valZ (rVal b)) (upT b 1000 2 ⟨p, bad, why⟩).1 [] (upT b 1000 2 ⟨p, bad, why⟩).2).2.bad : Nat), .int .i64 ((repE (tk valZ (rVal b)) (upT b 1000 2 ⟨p, bad, why⟩).1 [] (upT b 1000 2 ⟨p, bad, why⟩).2).2.why : Nat)]) L)) := liftT (fun H hc => by
  have hform := fun K => u6i (H := K) hop hk
  have hu := fun L => rfewS (c := c) (H := H) (L := L) (b := b) (z := z) (p := p) (bad := bad) (why := why) (most := 1000) hb hp hc
  rw [show ((1000 : Nat) : Int) = 1000 from rfl] at hu
  have u1 : (upT b 1000 2 ⟨p, bad, why⟩).2.p ≤ b.length := upT_le hp
  have ul : (upT b 1000 2 ⟨p, bad, why⟩).1 ≤ 1000 := upT_lt
  have hl := un6 (c := c) (H := H) (z := z) (op := op) (n := (upT b 1000 2 ⟨p, bad, why⟩).1) hb (by omega) hc (upT b 1000 2 ⟨p, bad, why⟩).1 0 [] (upT b 1000 2 ⟨p, bad, why⟩).2.p (upT b 1000 2 ⟨p, bad, why⟩).2.bad (upT b 1000 2 ⟨p, bad, why⟩).2.why (by omega) (by simp; omega) u1
  rw [show ((0 : Nat) : Int) = 0 from rfl] at hl
  simp only [TS.eta, List.map_nil, show accP 3 [] = .slice false true 0 [] from rfl] at hl
  rw [u0a]
  simp +contextual -dsimp (disch := omega) only [↓kDown, kUp, ↓goDown, goUp, cr, simprocAttr, toK (m := C u08 [.int .i64 (op : Nat)]), hform, u0n, u0x, u25, hu, hl, u2l, u3m, low_Pa, u6p, u7z, low_sa, u4t, u02]) hc
end Go.Proofs.YthidcpkcfoldmaaGreat.Pi.Q
namespace Go.Proofs.YthidcpkcfoldmaaGreat.Pi.Q
open Go Go.Proofs.YthidcpkcfoldmaaGreat.Pi
attribute [local congr] ite_congr
variable {c : Nat} {H : Heap} {L : List Box} {b : List UInt8} {z : Bool} {p bad why : Nat}
def restR (k op : Nat) (b : List UInt8) (t : TS) : List PV × TS :=
  match k with
  | 2 => ([.int .i64 (op : Nat), .int .u32 0, .int .u32 0, .int .u64 0, .int .u32 0, .int .u32 0, .int .u64 0, .int .i64 (tk (⟨0, ⟨0, false, 0⟩⟩ : BK) (rBlock b) t).1.ty, .int .i64 (tk (⟨0, ⟨0, false, 0⟩⟩ : BK) (rBlock b) t).1.res.num, .bool (tk (⟨0, ⟨0, false, 0⟩⟩ : BK) (rBlock b) t).1.res.nul, .int .i64 (tk (⟨0, ⟨0, false, 0⟩⟩ : BK) (rBlock b) t).1.res.heap, .slice false true 0 [], .slice false true 0 [], .bool false, .slice false true 0 [], .slice false true 0 [], .slice false true 0 []], (tk (⟨0, ⟨0, false, 0⟩⟩ : BK) (rBlock b) t).2)
  | 3 => ([.int .i64 (op : Nat), .int .u32 0, .int .u32 0, .int .u64 0, .int .u32 0, .int .u32 0, .int .u64 0, .int .i64 (tk (⟨0, ⟨0, false, 0⟩⟩ : BK) (rBlock b) t).1.ty, .int .i64 (tk (⟨0, ⟨0, false, 0⟩⟩ : BK) (rBlock b) t).1.res.num, .bool (tk (⟨0, ⟨0, false, 0⟩⟩ : BK) (rBlock b) t).1.res.nul, .int .i64 (tk (⟨0, ⟨0, false, 0⟩⟩ : BK) (rBlock b) t).1.res.heap, .slice false true 0 [], .slice false true 0 [], .bool false, .slice false true 0 [], .slice false true 0 [], stripC (accP 3 ((repE (clT b) (upT b 65536 2 (tk (⟨0, ⟨0, false, 0⟩⟩ : BK) (rBlock b) t).2).1 [] (upT b 65536 2 (tk (⟨0, ⟨0, false, 0⟩⟩ : BK) (rBlock b) t).2).2).1.map encCN))], (repE (clT b) (upT b 65536 2 (tk (⟨0, ⟨0, false, 0⟩⟩ : BK) (rBlock b) t).2).1 [] (upT b 65536 2 (tk (⟨0, ⟨0, false, 0⟩⟩ : BK) (rBlock b) t).2).2).2)
  | 4 => ([.int .i64 (op : Nat), .int .u32 ((tk (0 : Nat) (rdU b 32 b.length) t).1 : Nat), .int .u32 0, .int .u64 0, .int .u32 0, .int .u32 0, .int .u64 0, .int .i64 0, .int .i64 0, .bool false, .int .i64 0, .slice false true 0 [], .slice false true 0 [], .bool false, .slice false true 0 [], .slice false true 0 [], .slice false true 0 []], (tk (0 : Nat) (rdU b 32 b.length) t).2)
  | 5 => ([.int .i64 (op : Nat), .int .u32 ((tk (0 : Nat) (rdU b 32 b.length) t).1 : Nat), .int .u32 ((tk (0 : Nat) (rdU b 32 b.length) (tk (0 : Nat) (rdU b 32 b.length) t).2).1 : Nat), .int .u64 0, .int .u32 0, .int .u32 0, .int .u64 0, .int .i64 0, .int .i64 0, .bool false, .int .i64 0, .slice false true 0 [], .slice false true 0 [], .bool false, .slice false true 0 [], .slice false true 0 [], .slice false true 0 []], (tk (0 : Nat) (rdU b 32 b.length) (tk (0 : Nat) (rdU b 32 b.length) t).2).2)
  | 6 => ([.int .i64 (op : Nat), .int .u32 ((tk (0 : Nat) (rdU b 32 b.length) (repE (tk (0 : Nat) (rdU b 32 b.length)) (upT b 65536 2 t).1 [] (upT b 65536 2 t).2).2).1 : Nat), .int .u32 0, .int .u64 0, .int .u32 0, .int .u32 0, .int .u64 0, .int .i64 0, .int .i64 0, .bool false, .int .i64 0, .slice false true 0 [], .slice false true 0 [], .bool false, stripC (accP 1 ((repE (tk (0 : Nat) (rdU b 32 b.length)) (upT b 65536 2 t).1 [] (upT b 65536 2 t).2).1.map encN)), .slice false true 0 [], .slice false true 0 []], (tk (0 : Nat) (rdU b 32 b.length) (repE (tk (0 : Nat) (rdU b 32 b.length)) (upT b 65536 2 t).1 [] (upT b 65536 2 t).2).2).2)
  | 7 => ([.int .i64 (op : Nat), .int .u32 0, .int .u32 0, .int .u64 0, .int .u32 0, .int .u32 0, .int .u64 0, .int .i64 0, .int .i64 0, .bool false, .int .i64 0, .slice false true 0 [], .slice false true 0 [], .bool false, .slice false true 0 [], stripC (accP 3 ((repE (tk valZ (rVal b)) (upT b 1000 2 t).1 [] (upT b 1000 2 t).2).1.map encV)), .slice false true 0 []], (repE (tk valZ (rVal b)) (upT b 1000 2 t).1 [] (upT b 1000 2 t).2).2)
  | 8 => ([.int .i64 (op : Nat), .int .u32 0, .int .u32 0, .int .u64 0, .int .u32 (rmAl b t : Nat), .int .u32 ((rm2 b t).1 : Nat), .int .u64 ((tk (0 : Nat) (rdU b 64 b.length) (rm2 b t).2).1 : Nat), .int .i64 0, .int .i64 0, .bool false, .int .i64 0, .slice false true 0 [], .slice false true 0 [], .bool false, .slice false true 0 [], .slice false true 0 [], .slice false true 0 []], (tk (0 : Nat) (rdU b 64 b.length) (rm2 b t).2).2)
  | 9 => ([.int .i64 (op : Nat), .int .u32 0, .int .u32 0, .int .u64 ((IntKind.u64.wrap (tk (0 : Int) (rdS b 32 b.length) t).1) % 4294967296), .int .u32 0, .int .u32 0, .int .u64 0, .int .i64 0, .int .i64 0, .bool false, .int .i64 0, .slice false true 0 [], .slice false true 0 [], .bool false, .slice false true 0 [], .slice false true 0 [], .slice false true 0 []], (tk (0 : Int) (rdS b 32 b.length) t).2)
  | 10 => ([.int .i64 (op : Nat), .int .u32 0, .int .u32 0, .int .u64 (IntKind.u64.wrap (tk (0 : Int) (rdS b 64 b.length) t).1), .int .u32 0, .int .u32 0, .int .u64 0, .int .i64 0, .int .i64 0, .bool false, .int .i64 0, .slice false true 0 [], .slice false true 0 [], .bool false, .slice false true 0 [], .slice false true 0 [], .slice false true 0 []], (tk (0 : Int) (rdS b 64 b.length) t).2)
  | 11 => ([.int .i64 (op : Nat), .int .u32 0, .int .u32 0, .int .u64 ((tk (0 : Nat) (rdF b 4 b.length) t).1 : Nat), .int .u32 0, .int .u32 0, .int .u64 0, .int .i64 0, .int .i64 0, .bool false, .int .i64 0, .slice false true 0 [], .slice false true 0 [], .bool false, .slice false true 0 [], .slice false true 0 [], .slice false true 0 []], (tk (0 : Nat) (rdF b 4 b.length) t).2)
  | 12 => ([.int .i64 (op : Nat), .int .u32 0, .int .u32 0, .int .u64 ((tk (0 : Nat) (rdF b 8 b.length) t).1 : Nat), .int .u32 0, .int .u32 0, .int .u64 0, .int .i64 0, .int .i64 0, .bool false, .int .i64 0, .slice false true 0 [], .slice false true 0 [], .bool false, .slice false true 0 [], .slice false true 0 [], .slice false true 0 []], (tk (0 : Nat) (rdF b 8 b.length) t).2)
  | 13 => ([.int .i64 (op : Nat), .int .u32 0, .int .u32 0, .int .u64 0, .int .u32 0, .int .u32 0, .int .u64 0, .int .i64 0, .int .i64 0, .bool false, .int .i64 0, .slice false true 0 [], .slice false true 0 [], .bool false, .slice false true 0 [], .slice false false 3 [.agg [.int .i64 5, .bool true, .int .i64 (tk (0 : Int) (rHeap b) t).1]], .slice false true 0 []], (tk (0 : Int) (rHeap b) t).2)
  | 14 => ([.int .i64 (op : Nat), .int .u32 0, .int .u32 0, .int .u64 0, .int .u32 0, .int .u32 0, .int .u64 0, .int .i64 0, .int .i64 0, .bool false, .int .i64 0, .slice false true 0 [], .slice false true 0 [], .bool false, .slice false true 0 [], .slice false false 3 [.agg [.int .i64 5, .bool (op % 2 == 1), .int .i64 (tk (0 : Int) (rHeap b) t).1]], .slice false true 0 []], (tk (0 : Int) (rHeap b) t).2)
  | 15 => ([.int .i64 (op : Nat), .int .u32 ((tk (0 : Nat) (rdU b 32 b.length) (smT b 3 t).2).1 : Nat), .int .u32 0, .int .u64 0, .int .u32 0, .int .u32 0, .int .u64 0, .int .i64 0, .int .i64 0, .bool false, .int .i64 0, .slice false true 0 [], .slice false true 0 [], .bool false, .slice false true 0 [], .slice false false 3 [.agg [.int .i64 5, .bool ((smT b 3 t).1 % 2 == 1), .int .i64 (tk (0 : Int) (rHeap b) (tk (0 : Nat) (rdU b 32 b.length) (smT b 3 t).2).2).1], .agg [.int .i64 5, .bool (decide (2 ≤ (smT b 3 t).1)), .int .i64 (tk (0 : Int) (rHeap b) (tk (0 : Int) (rHeap b) (tk (0 : Nat) (rdU b 32 b.length) (smT b 3 t).2).2).2).1]], .slice false true 0 []], (tk (0 : Int) (rHeap b) (tk (0 : Int) (rHeap b) (tk (0 : Nat) (rdU b 32 b.length) (smT b 3 t).2).2).2).2)
  | 16 => ([.int .i64 (op : Nat), .int .u32 ((tk (0 : Nat) (rdU b 32 b.length) t).1 : Nat), .int .u32 0, .int .u64 ((tk (0 : Nat) (rdU b 32 b.length) (tk (0 : Nat) (rdU b 32 b.length) t).2).1 : Nat), .int .u32 0, .int .u32 0, .int .u64 0, .int .i64 0, .int .i64 0, .bool false, .int .i64 0, .slice false true 0 [], .slice false true 0 [], .bool false, .slice false true 0 [], .slice false true 0 [], .slice false true 0 []], (tk (0 : Nat) (rdU b 32 b.length) (tk (0 : Nat) (rdU b 32 b.length) t).2).2)
  | _ => ([.int .i64 (op : Nat), .int .u32 0, .int .u32 0, .int .u64 0, .int .u32 0, .int .u32 0, .int .u64 0, .int .i64 0, .int .i64 0, .bool false, .int .i64 0, .slice false true 0 [], .slice false true 0 [], .bool false, .slice false true 0 [], .slice false true 0 [], .slice false true 0 []], t)
def good (v : PV) : Prop := isCell v = true ∧ v.cells = [v] ∧ (∀ n, v.low n = true) ∧ stripC v = v
theorem uxc {k : IntKind} {n : Int} : good (.int k n) := ⟨rfl, rfl, fun n => u8b, rfl⟩
theorem uto {x : Bool} : good (.bool x) := ⟨rfl, rfl, fun n => ubu, rfl⟩
theorem uwl : good (.slice false true 0 []) := ⟨rfl, rfl, fun n => u7q, rfl⟩
theorem uz7 {xs : List PV} : good (.slice false false 3 xs) := ⟨rfl, rfl, fun n => u7q, rfl⟩
theorem uyh {sz : Nat} {l : List PV} : good (stripC (accP sz l)) := ⟨u6p, u7z, fun n => low_sa, u4t⟩
theorem ur1 {k op : Nat} {t : TS} : ∀ v ∈ (restR k op b t).1, good v := by
  intro v hv
  unfold restR at hv
  split at hv <;>
  · simp only [List.mem_cons, List.not_mem_nil, or_false] at hv
    rcases hv with h | h | h | h | h | h | h | h | h | h | h | h | h | h | h | h | h <;> rw [h] <;> first | exact uxc | exact uto | exact uwl | exact uyh | exact uz7
theorem ust {k op : Nat} {t : TS} : ∃ m0 m1 m2 m3 m4 m5 m6 m7 m8 m9 m10 m11 m12 m13 m14 m15 m16, (restR k op b t).1 = [m0, m1, m2, m3, m4, m5, m6, m7, m8, m9, m10, m11, m12, m13, m14, m15, m16] := by
  unfold restR
  split <;> exact ⟨_, _, _, _, _, _, _, _, _, _, _, _, _, _, _, _, _, rfl⟩
theorem uw6 {op : Nat} (hop : op < 1048576) (hb : b.length < 2 ^ 61) (hp : p ≤ b.length) (hc : c < List.length H) : runK c (C u04 [.ptr c 0, .int .i64 (op : Nat)]) (St H c (.cells [BS z b, .int .i64 p, .int .i64 bad, .int .i64 why]) L) = some (.ok (.agg (restR (formN op) op b ⟨p, bad, why⟩).1) (St H c (.cells [BS z b, .int .i64 ((restR (formN op) op b ⟨p, bad, why⟩).2.p : Nat), .int .i64 ((restR (formN op) op b ⟨p, bad, why⟩).2.bad : Nat), .int .i64 ((restR (formN op) op b ⟨p, bad, why⟩).2.why : Nat)]) L)) := by
  have hl := ufp op
  generalize hk : formN (op : Int) = k at hl ⊢
  have h : k = 0 ∨ k = 1 ∨ k = 2 ∨ k = 3 ∨ k = 4 ∨ k = 5 ∨ k = 6 ∨ k = 7 ∨ k = 8 ∨ k = 9 ∨ k = 10 ∨ k = 11 ∨ k = 12 ∨ k = 13 ∨ k = 14 ∨ k = 15 ∨ k = 16 := by omega
  rcases h with rfl | rfl | rfl | rfl | rfl | rfl | rfl | rfl | rfl | rfl | rfl | rfl | rfl | rfl | rfl | rfl | rfl
  · exact uyg hk hop hb hp hc
  · exact v001 hk hop hb hp hc
  · exact v000 hk hop hb hp hc
  · exact uzq hk hop hb hp hc
  · exact uzh hk hop hb hp hc
  · exact uzw hk hop hb hp hc
  · exact uyi hk hop hb hp hc
  · exact uya hk hop hb hp hc
  · exact uzb hk hop hb hp hc
  · exact v005 hk hop hb hp hc
  · exact uxw hk hop hb hp hc
  · exact uxg hk hop hb hp hc
  · exact uvv hk hop hb hp hc
  · exact uy0 hk hop hb hp hc
  · exact uwd hk hop hb hp hc
  · exact uxn hk hop hb hp hc
  · exact uxy hk hop hb hp hc
theorem uyc {t : TS} (ht : t.p ≤ b.length) : (opcR b t).2.p ≤ b.length := by
  have h1 : (smT b 255 t).2.p ≤ b.length := smT_le ht
  unfold opcR op2T
  split
  · split
    · simp only [flT_p]; exact h1
    · split
      · simp only [fmT_p]
        split
        · exact tkU_le h1
        · exact tkU_le h1
      · simp only [fmT_p]; exact h1
  · exact h1
theorem v006 {t : TS} : (opcR b t).1 < 1048576 := by
  have h1 : (smT b 255 t).1 < 256 := smT_lt
  unfold opcR
  split
  · split
    · exact (by decide : (0 : Nat) < 1048576)
    · split
      · simp only; omega
      · simp only; omega
  · exact (by decide : (0 : Nat) < 1048576)
def readR (b : List UInt8) (a : Nat) : List PV × TS := restR (formN ((opcR b ⟨a, 0, 0⟩).1 : Nat)) (opcR b ⟨a, 0, 0⟩).1 b (opcR b ⟨a, 0, 0⟩).2
theorem uwc {at_ : Nat} (hb : b.length < 2 ^ 61) (hp : at_ ≤ b.length) : run (C u4r [BS z b, .int .i64 at_]) H = some (.ok (resI (readR b at_)) H) := by
  have c1 : (((at_ : Nat) : Int) < 0) = False := eq_false (by omega)
  have c2 : ((b.length : Int) < (at_ : Int)) = False := eq_false (by omega)
  have ho := use_2' (ropcS (c := List.length H + 1) (H := hadd H [.cells zeroI, .dead]) (L := []) (b := b) (z := z) (p := at_) (bad := 0) (why := 0) hb hp new2')
  simp only [show ((0 : Nat) : Int) = 0 from rfl] at ho
  have hn1 : (List.length H + 1 == List.length H) = false := beq_false_of_ne (by omega)
  have hn2 : (List.length H == List.length H + 1) = false := beq_false_of_ne (by omega)
  have hl := v006 (b := b) (t := ⟨at_, 0, 0⟩)
  have h1 : (opcR b (⟨at_, 0, 0⟩ : TS)).2.p ≤ b.length := uyc hp
  have hm := use_2' (uw6 (c := List.length H + 1) (H := hadd H [.cells zeroI, .dead]) (L := []) (b := b) (z := z) (p := (opcR b (⟨at_, 0, 0⟩ : TS)).2.p) (bad := (opcR b (⟨at_, 0, 0⟩ : TS)).2.bad) (why := (opcR b (⟨at_, 0, 0⟩ : TS)).2.why) hl hb h1 new2')
  simp only [TS.eta] at hm
  unfold readR
  have hg := ur1 (b := b) (k := formN ((opcR b (⟨at_, 0, 0⟩ : TS)).1 : Nat)) (op := (opcR b (⟨at_, 0, 0⟩ : TS)).1) (t := (opcR b (⟨at_, 0, 0⟩ : TS)).2)
  obtain ⟨m0, m1, m2, m3, m4, m5, m6, m7, m8, m9, m10, m11, m12, m13, m14, m15, m16, hcs⟩ := ust (b := b) (k := formN ((opcR b (⟨at_, 0, 0⟩ : TS)).1 : Nat)) (op := (opcR b (⟨at_, 0, 0⟩ : TS)).1) (t := (opcR b (⟨at_, 0, 0⟩ : TS)).2)
  generalize hr : restR (formN ((opcR b (⟨at_, 0, 0⟩ : TS)).1 : Nat)) (opcR b (⟨at_, 0, 0⟩ : TS)).1 b (opcR b (⟨at_, 0, 0⟩ : TS)).2 = r at hm hg hcs ⊢
  generalize (opcR b (⟨at_, 0, 0⟩ : TS)) = o at ho hm
  obtain ⟨cl, q⟩ := r
  simp only at hcs
  subst hcs
  have g0 := hg m0 (by simp)
  have g1 := hg m1 (by simp)
  have g2 := hg m2 (by simp)
  have g3 := hg m3 (by simp)
  have g4 := hg m4 (by simp)
  have g5 := hg m5 (by simp)
  have g6 := hg m6 (by simp)
  have g7 := hg m7 (by simp)
  have g8 := hg m8 (by simp)
  have g9 := hg m9 (by simp)
  have g10 := hg m10 (by simp)
  have g11 := hg m11 (by simp)
  have g12 := hg m12 (by simp)
  have g13 := hg m13 (by simp)
  have g14 := hg m14 (by simp)
  have g15 := hg m15 (by simp)
  have g16 := hg m16 (by simp)
  unfold zeroI at ho hm
  unfold resI zeroI
  simp only at hm ⊢
  clear hg hr
  rw [u8l]
  by_cases hw : q.why = 0
  · have hw' : (((q.why : Nat) : Int) = 0) = True := eq_true (by omega)
    rw [if_pos hw]
    simp +contextual -dsimp (disch := omega) only [↓goDown, goUp, cr, simprocAttr, List.length_map, c1, c2, ho, hn1, hn2, hm, hw', g0.1, g0.2.1, g0.2.2.1, g0.2.2.2, g1.1, g1.2.1, g1.2.2.1, g1.2.2.2, g2.1, g2.2.1, g2.2.2.1, g2.2.2.2, g3.1, g3.2.1, g3.2.2.1, g3.2.2.2, g4.1, g4.2.1, g4.2.2.1, g4.2.2.2, g5.1, g5.2.1, g5.2.2.1, g5.2.2.2, g6.1, g6.2.1, g6.2.2.1, g6.2.2.2, g7.1, g7.2.1, g7.2.2.1, g7.2.2.2, g8.1, g8.2.1, g8.2.2.1, g8.2.2.2, g9.1, g9.2.1, g9.2.2.1, g9.2.2.2, g10.1, g10.2.1, g10.2.2.1, g10.2.2.2, g11.1, g11.2.1, g11.2.2.1, g11.2.2.2, g12.1, g12.2.1, g12.2.2.1, g12.2.2.2, g13.1, g13.2.1, g13.2.2.1, g13.2.2.2, g14.1, g14.2.1, g14.2.2.1, g14.2.2.2, g15.1, g15.2.1, g15.2.2.1, g15.2.2.2, g16.1, g16.2.1, g16.2.2.1, g16.2.2.2]
  · have hw' : (((q.why : Nat) : Int) = 0) = False := eq_false (by omega)
    rw [if_neg hw]
    simp +contextual -dsimp (disch := omega) only [↓goDown, goUp, cr, simprocAttr, List.length_map, c1, c2, ho, hn1, hn2, hm, hw', g0.1, g0.2.1, g0.2.2.1, g0.2.2.2, g1.1, g1.2.1, g1.2.2.1, g1.2.2.2, g2.1, g2.2.1, g2.2.2.1, g2.2.2.2, g3.1, g3.2.1, g3.2.2.1, g3.2.2.2, g4.1, g4.2.1, g4.2.2.1, g4.2.2.2, g5.1, g5.2.1, g5.2.2.1, g5.2.2.2, g6.1, g6.2.1, g6.2.2.1, g6.2.2.2, g7.1, g7.2.1, g7.2.2.1, g7.2.2.2, g8.1, g8.2.1, g8.2.2.1, g8.2.2.2, g9.1, g9.2.1, g9.2.2.1, g9.2.2.2, g10.1, g10.2.1, g10.2.2.1, g10.2.2.2, g11.1, g11.2.1, g11.2.2.1, g11.2.2.2, g12.1, g12.2.1, g12.2.2.1, g12.2.2.2, g13.1, g13.2.1, g13.2.2.1, g13.2.2.2, g14.1, g14.2.1, g14.2.2.1, g14.2.2.2, g15.1, g15.2.1, g15.2.2.1, g15.2.2.2, g16.1, g16.2.1, g16.2.2.1, g16.2.2.2]
theorem uuj {a : Int} (h : a < 0 ∨ (b.length : Int) < a) : run (C u4r [BS z b, .int .i64 a]) H = some (.ok (.tup [.agg zeroI, .int .i64 0, .int .i64 1]) H) := by
  unfold zeroI
  rw [u8l]
  by_cases h0 : a < 0
  · simp +contextual -dsimp (disch := omega) only [↓goDown, goUp, cr, simprocAttr, List.length_map, eq_true h0]
  · have h1 : (b.length : Int) < a := by omega
    simp +contextual -dsimp (disch := omega) only [↓goDown, goUp, cr, simprocAttr, List.length_map, h0, eq_true h1]
end Go.Proofs.YthidcpkcfoldmaaGreat.Pi.Q
namespace Go.Proofs.YthidcpkcfoldmaaGreat.Pi.Q
open Go Go.Proofs.YthidcpkcfoldmaaGreat.Pi
variable {b : List UInt8}
theorem tk_no {α : Type} {zero : α} {r : Nat → Rs α} {t : TS} (h : t.why ≠ 0) : tk zero r t = (zero, t) := by unfold tk; rw [if_neg h]
theorem upT_no {most e : Nat} {t : TS} (h : t.why ≠ 0) : upT b most e t = (0, t) := by
  unfold upT
  rw [tk_no h, if_neg (fun g => h g.1)]
theorem smT_no {most : Nat} {t : TS} (h : t.why ≠ 0) : smT b most t = (0, t) := by unfold smT; rw [if_neg h]
theorem unf {α : Type} {one : TS → α × TS} {k : Nat} {l : List α} {t : TS} (h : t.why ≠ 0) : repE one k l t = (l, t) := by
  cases k with
  | zero => rfl
  | succ k => unfold repE; rw [if_neg h]
theorem repC_E {α : Type} {one : TS → α × TS} : ∀ (k : Nat) (l : List α) (t : TS), t.why = 0 ∨ k = 0 → (repE one k l t).2 = (repC one k l t).2 ∧ ((repC one k l t).2.why = 0 → (repE one k l t).1 = (repC one k l t).1)
  | 0, l, t, h => ⟨rfl, fun _ => rfl⟩
  | k + 1, l, t, h => by
    have h0 : t.why = 0 := by omega
    simp only [repE, repC, if_pos h0]
    by_cases h1 : (one t).2.why = 0
    · rw [if_pos h1]
      exact repC_E k _ _ (.inl h1)
    · rw [if_neg h1, unf h1]
      exact ⟨rfl, fun g => absurd g h1⟩
theorem repT_E {α : Type} {one : TS → α × TS} : ∀ (k : Nat) (l : List α) (t : TS), t.why = 0 ∨ k = 0 → (repE one k l t) = (repT one k l t).1 ∧ ((repT one k l t).2 = true → (repT one k l t).1.2.why ≠ 0)
  | 0, l, t, h => ⟨rfl, fun g => by cases g⟩
  | k + 1, l, t, h => by
    have h0 : t.why = 0 := by omega
    simp only [repE, repT, if_pos h0]
    by_cases h1 : (one t).2.why = 0
    · rw [if_pos h1]
      exact repT_E k _ _ (.inl h1)
    · rw [if_neg h1, unf h1]
      exact ⟨rfl, fun _ => h1⟩
theorem uo0 {most e : Nat} {t : TS} : (upT b most e t).2.why = 0 ∨ (upT b most e t).1 = 0 := by
  unfold upT
  split
  · exact .inr rfl
  · by_cases h : (tk (0 : Nat) (rdU b 32 b.length) t).2.why = 0
    · exact .inl h
    · exact .inr (tk_why h)
theorem imm_no {k op : Nat} {t : TS} (h : t.why ≠ 0) : (imm k op b t).2 = t := by
  have hlab : ∀ l, labR b 0 l t = ((l, t), false) := fun l => rfl
  unfold imm
  have hm : memT b t = t := by unfold memT; rw [upT_no h]; exact if_neg (by show ¬ 63 < 0; decide)
  have ht : tabT b 0 [] t = t := by unfold tabT; rw [hlab]; simp only [Bool.false_eq_true, ↓reduceIte, tk_no h]
  split <;> simp only [tk_no h, upT_no h, smT_no h, hm, ht]
  all_goals rfl
theorem uqh {k op : Nat} {t : TS} (h : t.why ≠ 0) : (restR k op b t).2 = t := by
  unfold restR
  split <;> simp only [tk_no h, upT_no h, smT_no h, unf h]
  · unfold rm2 rm1
    simp only [tk_no h, Nat.not_lt_zero, and_false, ↓reduceIte, Nat.not_succ_le_zero, show ¬ 64 ≤ (0 : Nat) by decide]
theorem rm1_is {t : TS} : rm1 b t = (upT b 127 4 t).2 := by
  unfold rm1 upT
  split <;> rfl
theorem mem_is {t : TS} : (rm2 b t).2 = memT b t ∧ ((memT b t).why = 0 → rmAl b t = (upT b 127 4 t).1 % 64 ∧ memM b t (.int .u32 0) = .int .u32 ((rm2 b t).1 : Nat)) := by
  unfold memT memM rm2 rmAl
  rw [rm1_is]
  by_cases h : (tk (0 : Nat) (rdU b 32 b.length) t).2.why = 0 ∧ 127 < (tk (0 : Nat) (rdU b 32 b.length) t).1
  · have e : upT b 127 4 t = (0, ⟨(tk (0 : Nat) (rdU b 32 b.length) t).2.p, t.p, 4⟩) := by unfold upT; rw [if_pos h]
    rw [e, if_pos (by omega), if_neg (by show ¬ 63 < 0; decide)]
    rw [tk_no (by exact (by decide : (4 : Nat) ≠ 0))]
    exact ⟨rfl, fun g => absurd g (by decide : (4 : Nat) ≠ 0)⟩
  · have e : upT b 127 4 t = tk (0 : Nat) (rdU b 32 b.length) t := by unfold upT; rw [if_neg h]
    rw [e]
    by_cases hw : (tk (0 : Nat) (rdU b 32 b.length) t).2.why = 0
    · have hlt : (tk (0 : Nat) (rdU b 32 b.length) t).1 ≤ 127 := by omega
      by_cases h64 : 64 ≤ (tk (0 : Nat) (rdU b 32 b.length) t).1
      · rw [if_pos h64, if_pos (show 63 < _ by omega), if_pos h64, if_pos (show 63 < _ by omega)]
        exact ⟨rfl, fun _ => ⟨by omega, rfl⟩⟩
      · rw [if_neg h64, if_neg (show ¬ 63 < _ by omega), if_neg h64, if_neg (show ¬ 63 < _ by omega)]
        exact ⟨rfl, fun _ => ⟨by omega, rfl⟩⟩
    · have hz := tk_why hw
      rw [hz, if_neg (by decide), if_neg (by decide), if_neg (by decide), if_neg (by decide)]
      exact ⟨rfl, fun _ => ⟨rfl, rfl⟩⟩
theorem uyq (v : Int) : IntKind.u64.wrap (IntKind.u32.wrap (IntKind.i32.wrap v)) = (IntKind.u64.wrap v) % 4294967296 := by
  have e : ∀ n, IntKind.u64.wrap n = n % 18446744073709551616 := fun n => by simp only [IntKind.wrap, IntKind.signed, IntKind.bits]; simp
  rw [e, e, IntKind.wrap_u32, IntKind.wrap_i32]
  omega
theorem uzo {t : TS} (h : (smT b 3 t).2.why = 0) : (smT b 3 t).1 ≤ 3 := by
  unfold smT at h ⊢
  by_cases h0 : t.why = 0
  · rw [if_pos h0] at h ⊢
    by_cases h1 : t.p < b.length
    · rw [if_pos h1] at h ⊢
      by_cases h2 : 3 < (b.getD t.p 0).toNat
      · rw [if_pos h2] at h; exact absurd h (by first | exact (by decide : ¬ (4 : Nat) = 0) | exact (by decide : ¬ (3 : Nat) = 0))
      · rw [if_neg h2]; exact Nat.le_of_not_lt h2
    · rw [if_neg h1]; exact Nat.zero_le _
  · rw [if_neg h0]; exact Nat.zero_le _
theorem tk_ok {α : Type} {zero : α} {r : Nat → Rs α} {t : TS} (h : (tk zero r t).2.why = 0) : t.why = 0 := by
  by_cases h0 : t.why = 0
  · exact h0
  · rw [tk_no h0] at h; exact h
theorem uxl {k op : Nat} {t : TS} : (restR k op b t).2 = (imm k op b t).2 ∧ ((imm k op b t).2.why = 0 → (restR k op b t).1.map stripC = (imm k op b t).1.map stripC) := by
  unfold restR imm
  split
  · exact ⟨rfl, fun _ => rfl⟩
  · -- try
    have hc := repC_E (one := clT b) (upT b 65536 2 (tk (⟨0, ⟨0, false, 0⟩⟩ : BK) (rBlock b) t).2).1 [] (upT b 65536 2 (tk (⟨0, ⟨0, false, 0⟩⟩ : BK) (rBlock b) t).2).2 uo0
    exact ⟨hc.1, fun h => by simp only [List.map_cons, List.map_nil, u4t]; rw [hc.2 h]⟩
  · exact ⟨rfl, fun _ => rfl⟩
  · exact ⟨rfl, fun _ => rfl⟩
  · -- table
    have hc := repT_E (one := tk (0 : Nat) (rdU b 32 b.length)) (upT b 65536 2 t).1 [] (upT b 65536 2 t).2 uo0
    unfold tabT tabM labR
    simp only
    rw [hc.1]
    cases hf : (repT (tk (0 : Nat) (rdU b 32 b.length)) (upT b 65536 2 t).1 [] (upT b 65536 2 t).2).2 with
    | true =>
      have := hc.2 hf
      rw [tk_no this]
      simp only [↓reduceIte]
      exact ⟨trivial, fun g => absurd g this⟩
    | false => simp only [Bool.false_eq_true, ↓reduceIte, List.map_cons, List.map_nil, u4t, true_and, implies_true]
  · -- types
    have hc := repT_E (one := tk valZ (rVal b)) (upT b 1000 2 t).1 [] (upT b 1000 2 t).2 uo0
    unfold valR
    simp only
    rw [hc.1]
    exact ⟨rfl, fun _ => by simp only [List.map_cons, List.map_nil, u4t]⟩
  · -- mem
    have hm := mem_is (b := b) (t := t)
    simp only
    rw [hm.1]
    exact ⟨rfl, fun h => by rw [(hm.2 (tk_ok h)).1, (hm.2 (tk_ok h)).2]⟩
  · exact ⟨rfl, fun _ => by simp only [uyq]⟩
  · exact ⟨rfl, fun _ => rfl⟩
  · exact ⟨rfl, fun _ => rfl⟩
  · exact ⟨rfl, fun _ => rfl⟩
  · exact ⟨rfl, fun _ => rfl⟩
  · have e : ((op : Int) % 2 == 1) = (op % 2 == 1) := by rw [Bool.eq_iff_iff]; simp; omega
    exact ⟨rfl, fun _ => by simp only [← e]; rfl⟩
  · refine ⟨rfl, fun h => ?_⟩
    have h3 := uzo (tk_ok (tk_ok (tk_ok h)))
    have e1 : ((smT b 3 t).1 % 2 != 0) = ((smT b 3 t).1 % 2 == 1) := by rw [Bool.eq_iff_iff]; simp
    have e2 : ((smT b 3 t).1 / 2 % 2 * 2 != 0) = decide (2 ≤ (smT b 3 t).1) := by rw [Bool.eq_iff_iff]; simp; omega
    simp only [← e1, ← e2]
    rfl
  · exact ⟨rfl, fun _ => rfl⟩
  · split <;> first | exact ⟨rfl, fun _ => rfl⟩ | (exfalso; simp_all)
theorem smT_p1 {most : Nat} {t : TS} (h : (smT b most t).2.why = 0) : (smT b most t).2.p = t.p + 1 ∧ t.why = 0 := by
  unfold smT at h ⊢
  by_cases h0 : t.why = 0
  · rw [if_pos h0] at h ⊢
    by_cases h1 : t.p < b.length
    · rw [if_pos h1] at h ⊢
      by_cases h2 : most < (b.getD t.p 0).toNat
      · rw [if_pos h2] at h; exact absurd h (by first | exact (by decide : ¬ (4 : Nat) = 0) | exact (by decide : ¬ (3 : Nat) = 0))
      · rw [if_neg h2]; exact ⟨rfl, h0⟩
    · rw [if_neg h1] at h; exact absurd h (by first | exact (by decide : ¬ (4 : Nat) = 0) | exact (by decide : ¬ (3 : Nat) = 0))
  · rw [if_neg h0] at h; exact absurd h h0
theorem pfT_is {t : TS} (h : (smT b 255 t).2.why = 0) : pfT t.p (upT b 255 4 (smT b 255 t).2).2 = op2T b t := by
  obtain ⟨h1, h2⟩ := smT_p1 h
  unfold op2T upT
  generalize hs : smT b 255 t = s at h h1
  by_cases h3 : (tk (0 : Nat) (rdU b 32 b.length) s.2).2.why = 0 ∧ 255 < (tk (0 : Nat) (rdU b 32 b.length) s.2).1
  · rw [if_pos h3, if_pos h3]
    unfold pfT
    rw [if_pos ⟨rfl, h1⟩]
  · rw [if_neg h3, if_neg h3]
    unfold pfT
    rw [if_neg]
    intro g
    unfold tk at g
    rw [if_pos h] at g
    cases hr : rdU b 32 b.length s.2.p with
    | ok v q => rw [hr] at g; simp only at g; omega
    | err a w =>
      rw [hr] at g
      simp only at g
      obtain ⟨rfl, rfl⟩ := g
      have := una hr
      omega
theorem fmT_no {a op : Nat} {t : TS} (h : t.why ≠ 0) : fmT a op t = t := by
  unfold fmT
  split
  · exact flT_no h
  · rfl
theorem opc_is {t : TS} (h : (smT b 255 t).2.why = 0) : (opcR b t).2 = (opcT b t).2 ∧ ((opcT b t).2.why = 0 → (opcR b t).1 = (opcT b t).1) := by
  unfold opcR opcT
  rw [if_pos h]
  by_cases hd : (smT b 255 t).1 = 253
  · rw [if_pos hd, if_pos hd]
    have e : flT t.p 8 (smT b 255 t).2 = ⟨(smT b 255 t).2.p, t.p, 8⟩ := flT_ok h (by decide)
    simp only [e]
    rw [fmT_no (by exact (by decide : (8 : Nat) ≠ 0))]
    exact ⟨rfl, fun g => absurd g (by decide : (8 : Nat) ≠ 0)⟩
  · rw [if_neg hd, if_neg hd]
    by_cases ht : (smT b 255 t).1 = 251 ∨ (smT b 255 t).1 = 252
    · rw [if_pos ht, if_pos ht]
      simp only
      rw [pfT_is h]
      by_cases h3 : (tk (0 : Nat) (rdU b 32 b.length) (smT b 255 t).2).2.why = 0 ∧ 255 < (tk (0 : Nat) (rdU b 32 b.length) (smT b 255 t).2).1
      · have e : op2T b t = ⟨(tk (0 : Nat) (rdU b 32 b.length) (smT b 255 t).2).2.p, t.p, 4⟩ := by unfold op2T; rw [if_pos h3]
        have hw : (op2T b t).why ≠ 0 := by rw [e]; exact (by decide : (4 : Nat) ≠ 0)
        rw [fmT_no hw, fmT_no hw]
        exact ⟨rfl, fun g => absurd g hw⟩
      · have e : (upT b 255 4 (smT b 255 t).2).1 = (tk (0 : Nat) (rdU b 32 b.length) (smT b 255 t).2).1 := by unfold upT; rw [if_neg h3]
        have hlt : (tk (0 : Nat) (rdU b 32 b.length) (smT b 255 t).2).1 < 256 := by
          by_cases hw : (tk (0 : Nat) (rdU b 32 b.length) (smT b 255 t).2).2.why = 0
          · omega
          · rw [tk_why hw]; omega
        have e2 : 256 * (smT b 255 t).1 + (tk (0 : Nat) (rdU b 32 b.length) (smT b 255 t).2).1 % 256 = (smT b 255 t).1 * 256 + (upT b 255 4 (smT b 255 t).2).1 := by rw [e]; omega
        rw [e2]
        exact ⟨rfl, fun _ => rfl⟩
    · rw [if_neg ht, if_neg ht]
      exact ⟨rfl, fun _ => rfl⟩
theorem uyu {a : Nat} : resI (readR b a) = resI (readP b a) := by
  unfold readR readP
  by_cases h : (smT b 255 (⟨a, 0, 0⟩ : TS)).2.why = 0
  · rw [if_pos h]
    obtain ⟨h1, h2⟩ := opc_is h
    by_cases hw : (opcT b (⟨a, 0, 0⟩ : TS)).2.why = 0
    · rw [h2 hw, h1]
      obtain ⟨g1, g2⟩ := uxl (b := b) (k := formN ((opcT b (⟨a, 0, 0⟩ : TS)).1 : Nat)) (op := (opcT b (⟨a, 0, 0⟩ : TS)).1) (t := (opcT b (⟨a, 0, 0⟩ : TS)).2)
      unfold resI
      rw [g1]
      split
      · rename_i hf; rw [g2 hf]
      · rfl
    · have hw' : (opcR b (⟨a, 0, 0⟩ : TS)).2.why ≠ 0 := by rw [h1]; exact hw
      unfold resI
      rw [uqh hw', imm_no hw, h1, if_neg hw, if_neg hw]
  · rw [if_neg h]
    have e : opcR b (⟨a, 0, 0⟩ : TS) = (0, (smT b 255 (⟨a, 0, 0⟩ : TS)).2) := by unfold opcR; rw [if_neg h]
    rw [e]
    unfold resI
    rw [uqh h, if_neg h, if_neg h]
end Go.Proofs.YthidcpkcfoldmaaGreat.Pi.Q
namespace Go.Proofs.YthidcpkcfoldmaaGreat.Pi.Q
open Go Go.Proofs.YthidcpkcfoldmaaGreat.Pi
variable {b : List UInt8}
structure II where
  op : Int := 0
  x : Int := 0
  y : Int := 0
  n : Int := 0
  al : Int := 0
  me : Int := 0
  off : Int := 0
  blk : BK := ⟨0, ⟨0, false, 0⟩⟩
  la : List Nat := []
  ty : List VT := []
  ca : List CN := []
def csII (v : II) : List PV := [.int .i64 v.op, .int .u32 v.x, .int .u32 v.y, .int .u64 v.n, .int .u32 v.al, .int .u32 v.me, .int .u64 v.off, .int .i64 v.blk.ty, .int .i64 v.blk.res.num, .bool v.blk.res.nul, .int .i64 v.blk.res.heap, .slice false true 0 [], .slice false true 0 [], .bool false, shutP 1 (v.la.map encN), shutP 3 (v.ty.map encV), shutP 3 (v.ca.map encCN)]
theorem sa_P {sz : Nat} {l : List PV} : stripC (accP sz l) = shutP sz l := by cases l <;> rfl
def memN (b : List UInt8) (t : TS) : Nat := if 63 < (upT b 127 4 t).1 then (tk (0 : Nat) (rdU b 32 b.length) (upT b 127 4 t).2).1 else 0
def tabN (b : List UInt8) (n : Nat) (t : TS) : Nat := if (labR b n [] t).2 = true then 0 else (tk (0 : Nat) (rdU b 32 b.length) (labR b n [] t).1.2).1
def immI (k op : Nat) (b : List UInt8) (t : TS) : II :=
  match k with
  | 2 => { op := op, blk := (tk (⟨0, ⟨0, false, 0⟩⟩ : BK) (rBlock b) t).1 }
  | 3 => { op := op, blk := (tk (⟨0, ⟨0, false, 0⟩⟩ : BK) (rBlock b) t).1, ca := (repC (clT b) (upT b 65536 2 (tk (⟨0, ⟨0, false, 0⟩⟩ : BK) (rBlock b) t).2).1 [] (upT b 65536 2 (tk (⟨0, ⟨0, false, 0⟩⟩ : BK) (rBlock b) t).2).2).1 }
  | 4 => { op := op, x := (tk (0 : Nat) (rdU b 32 b.length) t).1 }
  | 5 => { op := op, x := (tk (0 : Nat) (rdU b 32 b.length) t).1, y := (tk (0 : Nat) (rdU b 32 b.length) (tk (0 : Nat) (rdU b 32 b.length) t).2).1 }
  | 6 => { op := op, x := tabN b (upT b 65536 2 t).1 (upT b 65536 2 t).2, la := (labR b (upT b 65536 2 t).1 [] (upT b 65536 2 t).2).1.1 }
  | 7 => { op := op, ty := (valR b (upT b 1000 2 t).1 [] (upT b 1000 2 t).2).1.1 }
  | 8 => { op := op, al := ((upT b 127 4 t).1 % 64 : Nat), me := memN b t, off := (tk (0 : Nat) (rdU b 64 b.length) (memT b t)).1 }
  | 9 => { op := op, n := IntKind.u64.wrap (IntKind.u32.wrap (IntKind.i32.wrap (tk (0 : Int) (rdS b 32 b.length) t).1)) }
  | 10 => { op := op, n := IntKind.u64.wrap (tk (0 : Int) (rdS b 64 b.length) t).1 }
  | 11 => { op := op, n := (tk (0 : Nat) (rdF b 4 b.length) t).1 }
  | 12 => { op := op, n := (tk (0 : Nat) (rdF b 8 b.length) t).1 }
  | 13 => { op := op, ty := [⟨5, true, (tk (0 : Int) (rHeap b) t).1⟩] }
  | 14 => { op := op, ty := [⟨5, ((op : Int) % 2 == 1), (tk (0 : Int) (rHeap b) t).1⟩] }
  | 15 => { op := op, x := (tk (0 : Nat) (rdU b 32 b.length) (smT b 3 t).2).1, ty := [⟨5, ((smT b 3 t).1 % 2 != 0), (tk (0 : Int) (rHeap b) (tk (0 : Nat) (rdU b 32 b.length) (smT b 3 t).2).2).1⟩, ⟨5, ((smT b 3 t).1 / 2 % 2 * 2 != 0), (tk (0 : Int) (rHeap b) (tk (0 : Int) (rHeap b) (tk (0 : Nat) (rdU b 32 b.length) (smT b 3 t).2).2).2).1⟩] }
  | 16 => { op := op, x := (tk (0 : Nat) (rdU b 32 b.length) t).1, n := (tk (0 : Nat) (rdU b 32 b.length) (tk (0 : Nat) (rdU b 32 b.length) t).2).1 }
  | _ => { op := op }
theorem tabM_N {n : Nat} {t : TS} : tabM b n [] t (.int .u32 0) = .int .u32 (tabN b n t : Nat) := by unfold tabM tabN; split <;> rfl
theorem memM_N {t : TS} : memM b t (.int .u32 0) = .int .u32 (memN b t : Nat) := by unfold memM memN; split <;> rfl
theorem imm_I {k op : Nat} {t : TS} : (imm k op b t).1.map stripC = csII (immI k op b t) := by
  unfold imm immI csII
  split <;> simp only [List.map_cons, List.map_nil, u4t, sa_P, tabM_N, memM_N] <;> first | rfl | skip
def II.fit (v : II) : Prop := v.la.length < 2 ^ 62 ∧ v.ty.length < 2 ^ 62 ∧ v.ca.length < 2 ^ 62
theorem uk9 {α : Type} {one : TS → α × TS} : ∀ (k : Nat) (l : List α) (t : TS), (repT one k l t).1.1.length ≤ l.length + k
  | 0, l, t => by simp [repT]
  | k + 1, l, t => by
    simp only [repT]
    split
    · have := uk9 (one := one) k (l ++ [(one t).1]) (one t).2
      simp at this
      omega
    · simp
theorem upr {α : Type} {one : TS → α × TS} : ∀ (k : Nat) (l : List α) (t : TS), (repC one k l t).1.length ≤ l.length + k
  | 0, l, t => by simp [repC]
  | k + 1, l, t => by
    simp only [repC]
    split
    · have := upr (one := one) k (l ++ [(one t).1]) (one t).2
      simp at this
      omega
    · simp
theorem uy2 {k op : Nat} {t : TS} : (immI k op b t).fit := by
  have z : ([] : List Nat).length < 2 ^ 62 := by decide
  unfold immI II.fit
  split <;> refine ⟨?_, ?_, ?_⟩ <;> simp only [List.length_nil, List.length_cons] <;> first | decide | skip
  · have h1 := upr (one := clT b) (upT b 65536 2 (tk (⟨0, ⟨0, false, 0⟩⟩ : BK) (rBlock b) t).2).1 [] (upT b 65536 2 (tk (⟨0, ⟨0, false, 0⟩⟩ : BK) (rBlock b) t).2).2
    have h2 := upT_lt (b := b) (most := 65536) (e := 2) (t := (tk (⟨0, ⟨0, false, 0⟩⟩ : BK) (rBlock b) t).2)
    simp only [List.length_nil] at h1
    omega
  · have h1 := uk9 (one := tk (0 : Nat) (rdU b 32 b.length)) (upT b 65536 2 t).1 [] (upT b 65536 2 t).2
    have h2 := upT_lt (b := b) (most := 65536) (e := 2) (t := t)
    unfold labR
    simp only [List.length_nil] at h1
    omega
  · have h1 := uk9 (one := tk valZ (rVal b)) (upT b 1000 2 t).1 [] (upT b 1000 2 t).2
    have h2 := upT_lt (b := b) (most := 1000) (e := 2) (t := t)
    unfold valR
    simp only [List.length_nil] at h1
    omega
theorem uzz {k op : Nat} {t : TS} : (immI k op b t).op = op := by unfold immI; split <;> rfl
def readI (b : List UInt8) (a : Nat) : II × TS := if (smT b 255 ⟨a, 0, 0⟩).2.why = 0 then (immI (formN ((opcT b ⟨a, 0, 0⟩).1 : Nat)) (opcT b ⟨a, 0, 0⟩).1 b (opcT b ⟨a, 0, 0⟩).2, (imm (formN ((opcT b ⟨a, 0, 0⟩).1 : Nat)) (opcT b ⟨a, 0, 0⟩).1 b (opcT b ⟨a, 0, 0⟩).2).2) else ({}, (smT b 255 ⟨a, 0, 0⟩).2)
theorem resI_I {a : Nat} : resI (readP b a) = if (readI b a).2.why = 0 then .tup [.agg (csII (readI b a).1), .int .i64 (readI b a).2.p, .int .i64 0] else .tup [.agg (csII {}), .int .i64 (readI b a).2.bad, .int .i64 (readI b a).2.why] := by
  unfold readP readI resI
  by_cases h : (smT b 255 (⟨a, 0, 0⟩ : TS)).2.why = 0
  · rw [if_pos h, if_pos h, imm_I]
    rfl
  · rw [if_neg h, if_neg h, if_neg h, if_neg h]
    rfl
theorem utq {a : Nat} : (readI b a).1.fit ∧ 0 ≤ (readI b a).1.op ∧ (readI b a).1.op < 1048576 := by
  have hz : ({} : II).fit ∧ 0 ≤ ({} : II).op ∧ ({} : II).op < 1048576 := ⟨⟨by decide, by decide, by decide⟩, by decide, by decide⟩
  unfold readI
  split
  · refine ⟨uy2, ?_⟩
    have := uze (b := b) (t := ⟨a, 0, 0⟩)
    simp only [uzz]
    omega
  · exact hz
end Go.Proofs.YthidcpkcfoldmaaGreat.Pi.Q
namespace Go.Proofs.YthidcpkcfoldmaaGreat.Pi.Q
open Go Go.Proofs.YthidcpkcfoldmaaGreat.Pi
attribute [local congr] ite_congr
theorem eql_s3 {H : Heap} {k1 k2 k3 : IntKind} {a b c : Int} : run (bi .eql (.struct [.int, .int, .int]) (.agg [.int k1 a, .int k2 b, .int k3 c]) (.agg [.int k1 a, .int k2 b, .int k3 c])) H = some (.ok (.bool true) H) := by
  unfold run bi
  simp [eqPV, u6b, u5l, M.pure]
theorem neq_s3 {H : Heap} {k1 k2 k3 : IntKind} {a b c : Int} : run (bi .neq (.struct [.int, .int, .int]) (.agg [.int k1 a, .int k2 b, .int k3 c]) (.agg [.int k1 a, .int k2 b, .int k3 c])) H = some (.ok (.bool false) H) := by
  unfold run bi
  simp [eqPV, u6b, u5l, M.pure]
theorem eql_s4 {H : Heap} {k1 k2 k3 : IntKind} {a b c : Int} {t : Bool} : run (bi .eql (.struct [.int, .int, .bool, .int]) (.agg [.int k1 a, .int k2 b, .bool t, .int k3 c]) (.agg [.int k1 a, .int k2 b, .bool t, .int k3 c])) H = some (.ok (.bool true) H) := by
  unfold run bi
  simp [eqPV, u6b, u5l, M.pure]
theorem uhz {H : Heap} : run (C u3o [.slice false true 0 [], .slice false true 0 []]) H = some (.ok (.bool true) H) := by
  have hl : ∀ v4, run (u34 (.slice false true 0 []) (.slice false true 0 []) v4 (.int .i64 0)) H = some (.ok (.bool true) H) := fun v4 => by
    rw [u84]
    simp +contextual -dsimp (disch := omega) only [↓goDown, goUp, cr, simprocAttr, show ((0 : Nat) : Int) = 0 from rfl, Int.lt_irrefl]
  rw [ua4]
  simp +contextual -dsimp (disch := omega) only [↓goDown, goUp, cr, simprocAttr, u4o, hl]
theorem ucq {H : Heap} {v : BK} : run (C u5u [.agg [.int .i64 v.ty, .int .i64 v.res.num, .bool v.res.nul, .int .i64 v.res.heap], .agg [.int .i64 v.ty, .int .i64 v.res.num, .bool v.res.nul, .int .i64 v.res.heap]]) H = some (.ok (.bool true) H) := by
  have hs : ∀ K, run (C u3u [.agg [.int .i64 v.res.num, .bool v.res.nul, .int .i64 v.res.heap], .agg [.int .i64 v.res.num, .bool v.res.nul, .int .i64 v.res.heap]]) K = some (.ok (.bool true) K) := fun K => um8 (H := K) (v := v.res)
  rw [u9j]
  simp +contextual -dsimp (disch := omega) only [↓goDown, goUp, cr, simprocAttr, u4m, hs]
theorem uaw {H : Heap} {v4 : PV} {l : List Nat} (hl : l.length < 2 ^ 62) : ∀ (m i : Nat), i + m = l.length → run (u1q (shutP 1 (l.map encN)) (shutP 1 (l.map encN)) v4 (.int .i64 i)) H = some (.ok (.bool true) H)
  | 0, i, h => by
    rw [u4z]
    have c1 : ¬ (i : Int) < l.length := by omega
    simp +contextual -dsimp (disch := omega) only [↓goDown, goUp, cr, simprocAttr, u36, ln_P, List.length_map, c1]
  | m + 1, i, h => by
    have ih := uaw hl (v4 := v4) (H := H) m (i + 1) (by omega)
    rw [u4z]
    have c1 : (i : Int) < l.length := by omega
    have hi : i < l.length := by omega
    have hg : (l.map encN)[i]? = some (encN l[i]) := by simp [hi]
    have hia : run (iaS 1 (shutP 1 (l.map encN)) (.int .i64 i)) H = some (.ok (.elem [.int .u32 l[i]]) H) := by
      rw [ia_P hg, u9r (by omega), Int.toNat_natCast, hg]
      rfl
    simp +contextual -dsimp (disch := omega) only [↓goDown, goUp, cr, simprocAttr, u36, ln_P, List.length_map, c1, hia, u4o, ns]
    exact ih
theorem ugs {H : Heap} {l : List Nat} (hl : l.length < 2 ^ 62) : run (C u3y [shutP 1 (l.map encN), shutP 1 (l.map encN)]) H = some (.ok (.bool true) H) := by
  rw [u9e]
  have lp : ∀ (v4 : PV) , run (u1q (shutP 1 (l.map encN)) (shutP 1 (l.map encN)) v4 (.int .i64 0)) H = some (.ok (.bool true) H) := fun v4 => uaw hl l.length 0 (by omega)
  simp +contextual -dsimp (disch := omega) only [↓goDown, goUp, cr, simprocAttr, u36, ln_P, u4o, lp]
theorem ual {H : Heap} {v4 : PV} {l : List CN} (hl : l.length < 2 ^ 62) : ∀ (m i : Nat), i + m = l.length → run (u1m (shutP 3 (l.map encCN)) (shutP 3 (l.map encCN)) v4 (.int .i64 i)) H = some (.ok (.bool true) H)
  | 0, i, h => by
    rw [u4s]
    have c1 : ¬ (i : Int) < l.length := by omega
    simp +contextual -dsimp (disch := omega) only [↓goDown, goUp, cr, simprocAttr, u36, ln_P, List.length_map, c1]
  | m + 1, i, h => by
    have ih := ual hl (v4 := v4) (H := H) m (i + 1) (by omega)
    rw [u4s]
    have c1 : (i : Int) < l.length := by omega
    have hi : i < l.length := by omega
    have hg : (l.map encCN)[i]? = some (encCN l[i]) := by simp [hi]
    have hia : run (iaS 3 (shutP 3 (l.map encCN)) (.int .i64 i)) H = some (.ok (.elem [.int .i64 l[i].1, .int .u32 l[i].2.1, .int .u32 l[i].2.2]) H) := by
      rw [ia_P hg, u9r (by omega), Int.toNat_natCast, hg]
      rfl
    simp +contextual -dsimp (disch := omega) only [↓goDown, goUp, cr, simprocAttr, u36, ln_P, List.length_map, c1, hia, neq_s3, ns]
    exact ih
theorem ufb {H : Heap} {l : List CN} (hl : l.length < 2 ^ 62) : run (C u3l [shutP 3 (l.map encCN), shutP 3 (l.map encCN)]) H = some (.ok (.bool true) H) := by
  rw [u94]
  have lp : ∀ (v4 : PV) , run (u1m (shutP 3 (l.map encCN)) (shutP 3 (l.map encCN)) v4 (.int .i64 0)) H = some (.ok (.bool true) H) := fun v4 => ual hl l.length 0 (by omega)
  simp +contextual -dsimp (disch := omega) only [↓goDown, goUp, cr, simprocAttr, u36, ln_P, u4o, lp]
theorem urn {H : Heap} {v : II} : run (C u74 [.agg (csII v), .agg (csII v)]) H = some (.ok (.bool true) H) := by
  rw [ubc]
  unfold csII
  simp +contextual -dsimp (disch := omega) only [↓goDown, goUp, cr, simprocAttr, u4m, uke, eql_s3, eql_s4, ln_P, u36, u3z, u5f, low_P, u3w]
end Go.Proofs.YthidcpkcfoldmaaGreat.Pi.Q
namespace Go.Proofs.YthidcpkcfoldmaaGreat.Pi.Q
open Go Go.Proofs.YthidcpkcfoldmaaGreat.Pi
attribute [local congr] ite_congr
variable {H : Heap} {b : List UInt8} {z : Bool}
theorem u6u {op : Int} {k : Nat} (h0 : -9223372036854775808 ≤ op) (h1 : op ≤ 9223372036854775807) (hk : formN op = k) : run (C u08 [.int .i64 op]) H = some (.ok (.str (wordS k)) H) := by
  rw [ujq h0 h1, uk0, hk]
  rfl
theorem uz1 {v : II} (hv : v.fit) (h0 : -9223372036854775808 ≤ v.op) (h1 : v.op ≤ 9223372036854775807) (hk : formN v.op = 0) : run (C u0c [.agg (csII v), .agg (csII v)]) H = some (.ok (.bool true) H) := by
  have hform := fun K => u6u (H := K) h0 h1 hk
  rw [u0f]
  unfold csII
  simp +contextual -dsimp (disch := omega) only [↓goDown, goUp, cr, simprocAttr, u4m, u4o, u4l, eql_s3, u36, u3z, u5f, low_P, u3w, hform, u0n, u0x, u25, u05, u01, u00]
theorem uy8 {v : II} (hv : v.fit) (h0 : -9223372036854775808 ≤ v.op) (h1 : v.op ≤ 9223372036854775807) (hk : formN v.op = 1) : run (C u0c [.agg (csII v), .agg (csII v)]) H = some (.ok (.bool true) H) := by
  have hform := fun K => u6u (H := K) h0 h1 hk
  rw [u0f]
  unfold csII
  simp +contextual -dsimp (disch := omega) only [↓goDown, goUp, cr, simprocAttr, u4m, u4o, u4l, eql_s3, u36, u3z, u5f, low_P, u3w, hform, u0n, u0x, u25, u05, u01, u00]
theorem uzv {v : II} (hv : v.fit) (h0 : -9223372036854775808 ≤ v.op) (h1 : v.op ≤ 9223372036854775807) (hk : formN v.op = 2) : run (C u0c [.agg (csII v), .agg (csII v)]) H = some (.ok (.bool true) H) := by
  have hform := fun K => u6u (H := K) h0 h1 hk
  have hb := fun K => ucq (H := K) (v := v.blk)
  have hn := fun K => uhz (H := K)
  by_cases h4 : v.op = 4
  · have h4' : (v.op = 4) = True := eq_true h4
    rw [u0f]
    unfold csII
    simp +contextual -dsimp (disch := omega) only [↓goDown, goUp, cr, simprocAttr, u4m, u4o, u4l, eql_s3, u36, u3z, u5f, low_P, u3w, hform, u0n, u0x, u25, hb, hn, un_not, h4', u05, u01, u00]
  · have h4' : (v.op = 4) = False := eq_false h4
    rw [u0f]
    unfold csII
    simp +contextual -dsimp (disch := omega) only [↓goDown, goUp, cr, simprocAttr, u4m, u4o, u4l, eql_s3, u36, u3z, u5f, low_P, u3w, hform, u0n, u0x, u25, hb, hn, un_not, h4', u05, u01, u00]
theorem uz9 {v : II} (hv : v.fit) (h0 : -9223372036854775808 ≤ v.op) (h1 : v.op ≤ 9223372036854775807) (hk : formN v.op = 3) : run (C u0c [.agg (csII v), .agg (csII v)]) H = some (.ok (.bool true) H) := by
  have hform := fun K => u6u (H := K) h0 h1 hk
  have hb := fun K => ucq (H := K) (v := v.blk)
  have hn := fun K => uhz (H := K)
  have hc := fun K => ufb (H := K) hv.2.2
  by_cases h4 : v.op = 4
  · have h4' : (v.op = 4) = True := eq_true h4
    rw [u0f]
    unfold csII
    simp +contextual -dsimp (disch := omega) only [↓goDown, goUp, cr, simprocAttr, u4m, u4o, u4l, eql_s3, u36, u3z, u5f, low_P, u3w, hform, u0n, u0x, u25, hb, hn, un_not, hc, h4', u05, u01, u00]
  · have h4' : (v.op = 4) = False := eq_false h4
    rw [u0f]
    unfold csII
    simp +contextual -dsimp (disch := omega) only [↓goDown, goUp, cr, simprocAttr, u4m, u4o, u4l, eql_s3, u36, u3z, u5f, low_P, u3w, hform, u0n, u0x, u25, hb, hn, un_not, hc, h4', u05, u01, u00]
theorem uz6 {v : II} (hv : v.fit) (h0 : -9223372036854775808 ≤ v.op) (h1 : v.op ≤ 9223372036854775807) (hk : formN v.op = 4) : run (C u0c [.agg (csII v), .agg (csII v)]) H = some (.ok (.bool true) H) := by
  have hform := fun K => u6u (H := K) h0 h1 hk
  rw [u0f]
  unfold csII
  simp +contextual -dsimp (disch := omega) only [↓goDown, goUp, cr, simprocAttr, u4m, u4o, u4l, eql_s3, u36, u3z, u5f, low_P, u3w, hform, u0n, u0x, u25, u05, u01, u00]
theorem uzm {v : II} (hv : v.fit) (h0 : -9223372036854775808 ≤ v.op) (h1 : v.op ≤ 9223372036854775807) (hk : formN v.op = 5) : run (C u0c [.agg (csII v), .agg (csII v)]) H = some (.ok (.bool true) H) := by
  have hform := fun K => u6u (H := K) h0 h1 hk
  rw [u0f]
  unfold csII
  simp +contextual -dsimp (disch := omega) only [↓goDown, goUp, cr, simprocAttr, u4m, u4o, u4l, eql_s3, u36, u3z, u5f, low_P, u3w, hform, u0n, u0x, u25, u05, u01, u00]
theorem uyj {v : II} (hv : v.fit) (h0 : -9223372036854775808 ≤ v.op) (h1 : v.op ≤ 9223372036854775807) (hk : formN v.op = 6) : run (C u0c [.agg (csII v), .agg (csII v)]) H = some (.ok (.bool true) H) := by
  have hform := fun K => u6u (H := K) h0 h1 hk
  have hl := fun K => ugs (H := K) hv.1
  rw [u0f]
  unfold csII
  simp +contextual -dsimp (disch := omega) only [↓goDown, goUp, cr, simprocAttr, u4m, u4o, u4l, eql_s3, u36, u3z, u5f, low_P, u3w, hform, u0n, u0x, u25, hl, u05, u01, u00]
theorem uzn {v : II} (hv : v.fit) (h0 : -9223372036854775808 ≤ v.op) (h1 : v.op ≤ 9223372036854775807) (hk : formN v.op = 7) : run (C u0c [.agg (csII v), .agg (csII v)]) H = some (.ok (.bool true) H) := by
  have hform := fun K => u6u (H := K) h0 h1 hk
  have ht := fun K => u8u (H := K) hv.2.1
  rw [u0f]
  unfold csII
  simp +contextual -dsimp (disch := omega) only [↓goDown, goUp, cr, simprocAttr, u4m, u4o, u4l, eql_s3, u36, u3z, u5f, low_P, u3w, hform, u0n, u0x, u25, ht, u05, u01, u00]
theorem uz8 {v : II} (hv : v.fit) (h0 : -9223372036854775808 ≤ v.op) (h1 : v.op ≤ 9223372036854775807) (hk : formN v.op = 8) : run (C u0c [.agg (csII v), .agg (csII v)]) H = some (.ok (.bool true) H) := by
  have hform := fun K => u6u (H := K) h0 h1 hk
  rw [u0f]
  unfold csII
  simp +contextual -dsimp (disch := omega) only [↓goDown, goUp, cr, simprocAttr, u4m, u4o, u4l, eql_s3, u36, u3z, u5f, low_P, u3w, hform, u0n, u0x, u25, u05, u01, u00]
theorem uy9 {v : II} (hv : v.fit) (h0 : -9223372036854775808 ≤ v.op) (h1 : v.op ≤ 9223372036854775807) (hk : formN v.op = 9) : run (C u0c [.agg (csII v), .agg (csII v)]) H = some (.ok (.bool true) H) := by
  have hform := fun K => u6u (H := K) h0 h1 hk
  rw [u0f]
  unfold csII
  simp +contextual -dsimp (disch := omega) only [↓goDown, goUp, cr, simprocAttr, u4m, u4o, u4l, eql_s3, u36, u3z, u5f, low_P, u3w, hform, u0n, u0x, u25, u05, u01, u00]
theorem uw1 {v : II} (hv : v.fit) (h0 : -9223372036854775808 ≤ v.op) (h1 : v.op ≤ 9223372036854775807) (hk : formN v.op = 10) : run (C u0c [.agg (csII v), .agg (csII v)]) H = some (.ok (.bool true) H) := by
  have hform := fun K => u6u (H := K) h0 h1 hk
  rw [u0f]
  unfold csII
  simp +contextual -dsimp (disch := omega) only [↓goDown, goUp, cr, simprocAttr, u4m, u4o, u4l, eql_s3, u36, u3z, u5f, low_P, u3w, hform, u0n, u0x, u25, u05, u01, u00]
theorem ux7 {v : II} (hv : v.fit) (h0 : -9223372036854775808 ≤ v.op) (h1 : v.op ≤ 9223372036854775807) (hk : formN v.op = 11) : run (C u0c [.agg (csII v), .agg (csII v)]) H = some (.ok (.bool true) H) := by
  have hform := fun K => u6u (H := K) h0 h1 hk
  rw [u0f]
  unfold csII
  simp +contextual -dsimp (disch := omega) only [↓goDown, goUp, cr, simprocAttr, u4m, u4o, u4l, eql_s3, u36, u3z, u5f, low_P, u3w, hform, u0n, u0x, u25, u05, u01, u00]
theorem uxo {v : II} (hv : v.fit) (h0 : -9223372036854775808 ≤ v.op) (h1 : v.op ≤ 9223372036854775807) (hk : formN v.op = 12) : run (C u0c [.agg (csII v), .agg (csII v)]) H = some (.ok (.bool true) H) := by
  have hform := fun K => u6u (H := K) h0 h1 hk
  rw [u0f]
  unfold csII
  simp +contextual -dsimp (disch := omega) only [↓goDown, goUp, cr, simprocAttr, u4m, u4o, u4l, eql_s3, u36, u3z, u5f, low_P, u3w, hform, u0n, u0x, u25, u05, u01, u00]
theorem uwi {v : II} (hv : v.fit) (h0 : -9223372036854775808 ≤ v.op) (h1 : v.op ≤ 9223372036854775807) (hk : formN v.op = 13) : run (C u0c [.agg (csII v), .agg (csII v)]) H = some (.ok (.bool true) H) := by
  have hform := fun K => u6u (H := K) h0 h1 hk
  have ht := fun K => u8u (H := K) hv.2.1
  rw [u0f]
  unfold csII
  simp +contextual -dsimp (disch := omega) only [↓goDown, goUp, cr, simprocAttr, u4m, u4o, u4l, eql_s3, u36, u3z, u5f, low_P, u3w, hform, u0n, u0x, u25, ht, u05, u01, u00]
theorem ux5 {v : II} (hv : v.fit) (h0 : -9223372036854775808 ≤ v.op) (h1 : v.op ≤ 9223372036854775807) (hk : formN v.op = 14) : run (C u0c [.agg (csII v), .agg (csII v)]) H = some (.ok (.bool true) H) := by
  have hform := fun K => u6u (H := K) h0 h1 hk
  have ht := fun K => u8u (H := K) hv.2.1
  rw [u0f]
  unfold csII
  simp +contextual -dsimp (disch := omega) only [↓goDown, goUp, cr, simprocAttr, u4m, u4o, u4l, eql_s3, u36, u3z, u5f, low_P, u3w, hform, u0n, u0x, u25, ht, u05, u01, u00]
theorem uwf {v : II} (hv : v.fit) (h0 : -9223372036854775808 ≤ v.op) (h1 : v.op ≤ 9223372036854775807) (hk : formN v.op = 15) : run (C u0c [.agg (csII v), .agg (csII v)]) H = some (.ok (.bool true) H) := by
  have hform := fun K => u6u (H := K) h0 h1 hk
  have ht := fun K => u8u (H := K) hv.2.1
  rw [u0f]
  unfold csII
  simp +contextual -dsimp (disch := omega) only [↓goDown, goUp, cr, simprocAttr, u4m, u4o, u4l, eql_s3, u36, u3z, u5f, low_P, u3w, hform, u0n, u0x, u25, ht, u05, u01, u00]
theorem ux0 {v : II} (hv : v.fit) (h0 : -9223372036854775808 ≤ v.op) (h1 : v.op ≤ 9223372036854775807) (hk : formN v.op = 16) : run (C u0c [.agg (csII v), .agg (csII v)]) H = some (.ok (.bool true) H) := by
  have hform := fun K => u6u (H := K) h0 h1 hk
  rw [u0f]
  unfold csII
  simp +contextual -dsimp (disch := omega) only [↓goDown, goUp, cr, simprocAttr, u4m, u4o, u4l, eql_s3, u36, u3z, u5f, low_P, u3w, hform, u0n, u0x, u25, u05, u01, u00]
theorem urr {v : II} (hv : v.fit) (h0 : -9223372036854775808 ≤ v.op) (h1 : v.op ≤ 9223372036854775807) : run (C u0c [.agg (csII v), .agg (csII v)]) H = some (.ok (.bool true) H) := by
  have hl := ufp v.op
  generalize hk : formN v.op = k at hl
  have h : k = 0 ∨ k = 1 ∨ k = 2 ∨ k = 3 ∨ k = 4 ∨ k = 5 ∨ k = 6 ∨ k = 7 ∨ k = 8 ∨ k = 9 ∨ k = 10 ∨ k = 11 ∨ k = 12 ∨ k = 13 ∨ k = 14 ∨ k = 15 ∨ k = 16 := by omega
  rcases h with rfl | rfl | rfl | rfl | rfl | rfl | rfl | rfl | rfl | rfl | rfl | rfl | rfl | rfl | rfl | rfl | rfl
  · exact uz1 hv h0 h1 hk
  · exact uy8 hv h0 h1 hk
  · exact uzv hv h0 h1 hk
  · exact uz9 hv h0 h1 hk
  · exact uz6 hv h0 h1 hk
  · exact uzm hv h0 h1 hk
  · exact uyj hv h0 h1 hk
  · exact uzn hv h0 h1 hk
  · exact uz8 hv h0 h1 hk
  · exact uy9 hv h0 h1 hk
  · exact uw1 hv h0 h1 hk
  · exact ux7 hv h0 h1 hk
  · exact uxo hv h0 h1 hk
  · exact uwi hv h0 h1 hk
  · exact ux5 hv h0 h1 hk
  · exact uwf hv h0 h1 hk
  · exact ux0 hv h0 h1 hk
theorem ugl {v : II} {p e a : Int} (hv : v.fit) (h0 : -9223372036854775808 ≤ v.op) (h1 : v.op ≤ 9223372036854775807)
    (hp : ∀ K, run (C u6s [BS z b, .int .i64 a]) K = some (.ok (.tup [.agg (csII v), .int .i64 p, .int .i64 e]) K))
    (hr : ∀ K, run (C u4r [BS z b, .int .i64 a]) K = some (.ok (.tup [.agg (csII v), .int .i64 p, .int .i64 e]) K)) :
    run (C u5g [BS z b, .int .i64 a]) H = some (.ok (.bool true) H) := by
  have hs := fun K => urr (H := K) hv h0 h1
  have ha := fun K => urn (H := K) (v := v)
  have hw := fun K => utn (H := K)
  rw [u9c]
  unfold csII at *
  simp +contextual -dsimp (disch := omega) only [↓goDown, goUp, cr, simprocAttr, hp, hr, u4m, hs, ha, hw, u36, u3z, u5f, low_P, u3w, uz0]
theorem ireads_true {a : Int} (hb : b.length < 2 ^ 61) : run (C u5g [BS z b, .int .i64 a]) H = some (.ok (.bool true) H) := by
  have hz : ({} : II).fit ∧ -9223372036854775808 ≤ ({} : II).op ∧ ({} : II).op ≤ 9223372036854775807 := ⟨⟨by decide, by decide, by decide⟩, by decide, by decide⟩
  by_cases h : a < 0 ∨ (b.length : Int) < a
  · exact ugl hz.1 hz.2.1 hz.2.2 (fun K => uvm (H := K) h) (fun K => uuj (H := K) h)
  · obtain ⟨n, rfl⟩ := Int.eq_ofNat_of_zero_le (show 0 ≤ a by omega)
    have hp : n ≤ b.length := by omega
    have h1 := fun K => uw9 (H := K) (z := z) hb hp
    have h2 := fun K => uwc (H := K) (z := z) hb hp
    simp only [uyu] at h2
    simp only [resI_I] at h1 h2
    obtain ⟨hf, g0, g1⟩ := utq (b := b) (a := n)
    by_cases hw : (readI b n).2.why = 0
    · simp only [if_pos hw] at h1 h2
      exact ugl hf (by omega) (by omega) h1 h2
    · simp only [if_neg hw] at h1 h2
      exact ugl hz.1 hz.2.1 hz.2.2 h1 h2
end Go.Proofs.YthidcpkcfoldmaaGreat.Pi.Q
