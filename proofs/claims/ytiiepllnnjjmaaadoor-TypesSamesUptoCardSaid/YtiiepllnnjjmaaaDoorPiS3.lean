/- What the law rests on, part 4 of 4: a reading of the program's code over told data, and what it comes to. -/
import Derived.Test.YtiiepllnnjjmaaaDoorPiS2
set_option linter.unusedVariables false
set_option linter.unusedSimpArgs false
set_option maxRecDepth 100000
namespace Go.Proofs.YtiiepllnnjjmaaaDoor.Pi.Q
open Go Go.Proofs.YtiiepllnnjjmaaaDoor.Pi
attribute [local congr] ite_congr
theorem neqI {H : Heap} {k : IntKind} {a b : Int} : run (bi .neq .none (.int k a) (.int k b)) H = some (.ok (.bool (a != b)) H) := by
  unfold run
  rw [bi_neq]
  rfl
theorem u6w {H : Heap} {v4 : PV} {fin fin' : Bool} {sup sup' : List Int} {kind kind' : Int} {ps rs ps' rs' : List VT} {fs fs' : List FT} {y1 y2 y3 y4 x1 x2 x3 x4 : Bool} (h1 : sup.length < 2 ^ 62) (h2 : ps.length < 2 ^ 62) (h3 : rs.length < 2 ^ 62) (h4 : fs.length < 2 ^ 62) (hm : sup.length = sup'.length) : ∀ (m i : Nat), i + m = sup.length →
    run (u0a (.ptr H.length 0) (.ptr (H.length + 1) 0) v4 (.int .i64 i)) (hadd H [.cells [.bool fin, LZ y1 1 (sup.map encI), .int .i64 kind, LZ y2 3 (ps.map encV), LZ y3 3 (rs.map encV), LZ y4 4 (fs.map encF)], .cells [.bool fin', LZ x1 1 (sup'.map encI), .int .i64 kind', LZ x2 3 (ps'.map encV), LZ x3 3 (rs'.map encV), LZ x4 4 (fs'.map encF)]]) =
      some (.ok (.bool (sameZ (fun x y : Int => x == y) (sup.drop i) (sup'.drop i) && (sameL sameV ps ps' && (sameL sameV rs rs' && sameL sameF fs fs')))) (hadd H [.cells [.bool fin, LZ y1 1 (sup.map encI), .int .i64 kind, LZ y2 3 (ps.map encV), LZ y3 3 (rs.map encV), LZ y4 4 (fs.map encF)], .cells [.bool fin', LZ x1 1 (sup'.map encI), .int .i64 kind', LZ x2 3 (ps'.map encV), LZ x3 3 (rs'.map encV), LZ x4 4 (fs'.map encF)]]))
  | 0, i, h => by
    have s1 := fun L z w => uew (z1 := z) (z2 := w) (m := ps') (H := hadd H L) h2
    have s2 := fun L z w => uew (z1 := z) (z2 := w) (m := rs') (H := hadd H L) h3
    have s3 := fun L z w => ugr (z1 := z) (z2 := w) (m := fs') (H := hadd H L) h4
    rw [u1k, u2i (by omega)]
    have c1 : ((i : Int) < sup.length) = False := eq_false (by omega)
    obtain ⟨c4, g4⟩ := u1q (sameL sameV ps ps')
    obtain ⟨c5, g5⟩ := u1q (sameL sameV rs rs')
    rw [g4] at s1
    rw [g5] at s2
    rw [g4, g5]
    cases c4 with
    | false => simp +contextual -dsimp (disch := omega) only [↓goDown, goUp, cr, simprocAttr, u06, ln_Z, List.length_map, c1, u0m, u09, low_Z, u08, u0n, s1, s2, s3, Bool.true_and, Bool.false_and]
    | true =>
      cases c5 with
      | false => simp +contextual -dsimp (disch := omega) only [↓goDown, goUp, cr, simprocAttr, u06, ln_Z, List.length_map, c1, u0m, u09, low_Z, u08, u0n, s1, s2, s3, Bool.true_and, Bool.false_and]
      | true => simp +contextual -dsimp (disch := omega) only [↓goDown, goUp, cr, simprocAttr, u06, ln_Z, List.length_map, c1, u0m, u09, low_Z, u08, u0n, s1, s2, s3, Bool.true_and, Bool.false_and]
  | m + 1, i, h => by
    have ih := u6w (fin := fin) (fin' := fin') (kind := kind) (kind' := kind') (ps' := ps') (rs' := rs') (fs' := fs') (y1 := y1) (y2 := y2) (y3 := y3) (y4 := y4) (x1 := x1) (x2 := x2) (x3 := x3) (x4 := x4) h1 h2 h3 h4 hm (v4 := v4) (H := H) m (i + 1) (by omega)
    have hi : i < sup.length := by omega
    have hj : i < sup'.length := by omega
    rw [u1k, u20 hi hj]
    have c1 : ((i : Int) < sup.length) = True := eq_true (by omega)
    have hga : (sup.map encI)[i]? = some (encI sup[i]) := by simp [hi]
    have hgb : (sup'.map encI)[i]? = some (encI sup'[i]) := by simp [hj]
    have hia : ∀ K z, run (iaS 1 (LZ z 1 (sup.map encI)) (.int .i64 i)) K = some (.ok (.elem [.int .i64 sup[i]]) K) := fun K z => ia_Z hga
    have hib : ∀ K z, run (iaS 1 (LZ z 1 (sup'.map encI)) (.int .i64 i)) K = some (.ok (.elem [.int .i64 sup'[i]]) K) := fun K z => ia_Z hgb
    obtain ⟨c, hc⟩ := u1q (sup[i] == sup'[i])
    have hc2 : (sup[i] != sup'[i]) = !c := by rw [bne, hc]
    rw [hc]
    cases c with
    | true =>
      simp +contextual -dsimp (disch := omega) only [↓goDown, goUp, cr, simprocAttr, u06, ln_Z, List.length_map, c1, u0m, u09, low_Z, u08, u0n, hia, hib, neqI, hc2, Bool.not_true, Bool.true_and, ns]
      exact ih
    | false =>
      simp +contextual -dsimp (disch := omega) only [↓goDown, goUp, cr, simprocAttr, u06, ln_Z, List.length_map, c1, u0m, u09, low_Z, u08, u0n, hia, hib, neqI, hc2, Bool.not_false, Bool.false_and, ns]
      all_goals rfl
theorem refSub {H : Heap} {a b : SG} (ha : a.plain.fit) : run (C u0x [.agg (cs_SG a), .agg (cs_SG b)]) H = some (.ok (.bool (sameS a.plain b.plain)) H) := by
  obtain ⟨f1, ⟨y1, sup⟩, ⟨k1, ⟨y2, ps⟩, ⟨y3, rs⟩, ⟨y4, fs⟩⟩⟩ := a
  obtain ⟨f2, ⟨x1, sup'⟩, ⟨k2, ⟨x2, ps'⟩, ⟨x3, rs'⟩, ⟨x4, fs'⟩⟩⟩ := b
  obtain ⟨l1, l2, l3, l4⟩ := ha
  simp only [SG.plain, CG.plain] at l1 l2 l3 l4
  rw [u3m]
  unfold cs_SG sameS sameL
  simp only [SG.plain, CG.plain]
  obtain ⟨c1, h1⟩ := u1q (f1 == f2)
  have h1' : (f1 != f2) = !c1 := by rw [bne, h1]
  obtain ⟨c3, h3⟩ := u1q (k1 == k2)
  have h3' : (k1 != k2) = !c3 := by rw [bne, h3]
  rw [h1, h3]
  cases c1 with
  | false => simp +contextual -dsimp (disch := omega) only [↓goDown, goUp, cr, simprocAttr, neqB, neqI, h1, h1', u06, ln_Z, List.length_map, u0m, u09, low_Z, u08, u0n, Bool.not_false, Bool.false_and]
  | true =>
    by_cases hl : sup.length = sup'.length
    · have e1 : ((sup.length : Int) == (sup'.length : Int)) = true := by rw [hl]; exact beq_self_eq_true _
      have e2 : ((sup.length : Int) != (sup'.length : Int)) = false := by rw [bne, e1]; rfl
      have q1 : ((sup.length : Int) = (sup'.length : Int)) = True := eq_true (by omega)
      cases c3 with
      | false =>
        have q3 : (k1 = k2) = False := eq_false (fun h => by rw [h] at h3; simp at h3)
        simp +contextual -dsimp (disch := omega) only [↓goDown, goUp, cr, simprocAttr, neqB, neqI, h1, h1', h3', e1, e2, q1, q3, u06, ln_Z, List.length_map, u0m, u09, low_Z, u08, u0n, Bool.not_true, Bool.not_false, Bool.true_and, Bool.false_and, Bool.and_false]
      | true =>
        have q3 : (k1 = k2) = True := eq_true (beq_iff_eq.mp h3)
        have hlp : ∀ v4, run (u0a (.ptr H.length 0) (.ptr (H.length + 1) 0) v4 (.int .i64 0)) _ = _ := fun v4 => u6w (H := H) (v4 := v4) (fin := f1) (fin' := f2) (kind := k1) (kind' := k2) (ps' := ps') (rs' := rs') (fs' := fs') (y1 := y1) (y2 := y2) (y3 := y3) (y4 := y4) (x1 := x1) (x2 := x2) (x3 := x3) (x4 := x4) l1 l2 l3 l4 hl sup.length 0 (by omega)
        simp only [List.drop_zero] at hlp
        unfold sameL at hlp
        simp +contextual -dsimp (disch := omega) only [↓goDown, goUp, cr, simprocAttr, neqB, neqI, h1, h1', h3', e1, e2, q1, q3, u06, ln_Z, List.length_map, u0m, u09, low_Z, u08, u0n, hlp, Bool.not_true, Bool.true_and]
    · have e1 : ((sup.length : Int) == (sup'.length : Int)) = false := beq_false_of_ne (by omega)
      have e2 : ((sup.length : Int) != (sup'.length : Int)) = true := by rw [bne, e1]; rfl
      have q1 : ((sup.length : Int) = (sup'.length : Int)) = False := eq_false (by omega)
      simp +contextual -dsimp (disch := omega) only [↓goDown, goUp, cr, simprocAttr, neqB, neqI, h1, h1', h3', e1, e2, q1, u06, ln_Z, List.length_map, u0m, u09, low_Z, u08, u0n, Bool.not_true, Bool.true_and, Bool.false_and]
theorem u7b {H : Heap} {v4 : PV} {l m : List SG} {y x e d : Bool} (hl : l.length < 2 ^ 62) (hv : ∀ t ∈ l, t.plain.fit) (hm : l.length = m.length) : ∀ (k i : Nat), i + k = l.length →
    run (u0c (.ptr H.length 0) (.ptr (H.length + 1) 0) v4 (.int .i64 i)) (hadd H [.cells [LZ y 6 (l.map encSG), .bool e], .cells [LZ x 6 (m.map encSG), .bool d]]) =
      some (.ok (.bool (sameZ (fun a b => sameS a.plain b.plain) (l.drop i) (m.drop i))) (hadd H [.cells [LZ y 6 (l.map encSG), .bool e], .cells [LZ x 6 (m.map encSG), .bool d]]))
  | 0, i, h => by
    rw [u1l, u2i (by omega)]
    have c1 : ((i : Int) < l.length) = False := eq_false (by omega)
    simp +contextual -dsimp (disch := omega) only [↓goDown, goUp, cr, simprocAttr, u06, ln_Z, List.length_map, c1, u0m, u09, low_Z, u08, u0n]
  | k + 1, i, h => by
    have ih := u7b (y := y) (x := x) (e := e) (d := d) hl hv hm (v4 := v4) (H := H) k (i + 1) (by omega)
    have hi : i < l.length := by omega
    have hj : i < m.length := by omega
    rw [u1l, u20 hi hj]
    have c1 : ((i : Int) < l.length) = True := eq_true (by omega)
    have hga : (l.map encSG)[i]? = some (encSG l[i]) := by simp [hi]
    have hgb : (m.map encSG)[i]? = some (encSG m[i]) := by simp [hj]
    have hia : ∀ K z, run (iaS 6 (LZ z 6 (l.map encSG)) (.int .i64 i)) K = some (.ok (.elem (cs_SG l[i])) K) := fun K z => ia_Z hga
    have hib : ∀ K z, run (iaS 6 (LZ z 6 (m.map encSG)) (.int .i64 i)) K = some (.ok (.elem (cs_SG m[i])) K) := fun K z => ia_Z hgb
    have hs : ∀ L, run (C u0x [.agg (cs_SG l[i]), .agg (cs_SG m[i])]) (hadd H L) = some (.ok (.bool (sameS l[i].plain m[i].plain)) (hadd H L)) := fun L => refSub (hv _ (List.getElem_mem hi))
    unfold cs_SG at hia hib hs
    cases hc : sameS l[i].plain m[i].plain with
    | true =>
      rw [hc] at hs
      simp +contextual -dsimp (disch := omega) only [↓goDown, goUp, cr, simprocAttr, u06, ln_Z, List.length_map, c1, u0m, u09, low_Z, u08, u0n, hia, hib, hs, un_not, ns]
      exact ih
    | false =>
      rw [hc] at hs
      simp +contextual -dsimp (disch := omega) only [↓goDown, goUp, cr, simprocAttr, u06, ln_Z, List.length_map, c1, u0m, u09, low_Z, u08, u0n, hia, hib, hs, un_not, ns]
      all_goals rfl
theorem refRec {H : Heap} {a b : RG} (ha : a.plain.fit) : run (C u1b [.agg (cs_RG a), .agg (cs_RG b)]) H = some (.ok (.bool (sameR a.plain b.plain)) H) := by
  obtain ⟨⟨y, l⟩, e⟩ := a
  obtain ⟨⟨x, m⟩, d⟩ := b
  have hl : l.length < 2 ^ 62 := by have := ha.1; simpa [RG.plain] using this
  have hf : ∀ t ∈ l, t.plain.fit := fun t ht => ha.2 _ (List.mem_map_of_mem ht)
  rw [u3i]
  unfold cs_RG sameR
  simp only [RG.plain]
  rw [← ub4]
  unfold sameL
  obtain ⟨c1, h1⟩ := u1q (e == d)
  have h1' : (e != d) = !c1 := by rw [bne, h1]
  rw [h1]
  cases c1 with
  | false => simp +contextual -dsimp (disch := omega) only [↓goDown, goUp, cr, simprocAttr, neqB, neqI, h1, h1', u06, ln_Z, List.length_map, u0m, u09, low_Z, u08, u0n, Bool.not_false, Bool.false_and]
  | true =>
    by_cases hm : l.length = m.length
    · have e1 : ((l.length : Int) == (m.length : Int)) = true := by rw [hm]; exact beq_self_eq_true _
      have e2 : ((l.length : Int) != (m.length : Int)) = false := by rw [bne, e1]; rfl
      have q1 : ((l.length : Int) = (m.length : Int)) = True := eq_true (by omega)
      have hlp : ∀ v4, run (u0c (.ptr H.length 0) (.ptr (H.length + 1) 0) v4 (.int .i64 0)) _ = _ := fun v4 => u7b (H := H) (v4 := v4) (y := y) (x := x) (e := e) (d := d) hl hf hm l.length 0 (by omega)
      simp only [List.drop_zero] at hlp
      simp +contextual -dsimp (disch := omega) only [↓goDown, goUp, cr, simprocAttr, neqB, neqI, h1, h1', e1, e2, q1, u06, ln_Z, List.length_map, u0m, u09, low_Z, u08, u0n, hlp, Bool.not_true, Bool.true_and]
    · have e1 : ((l.length : Int) == (m.length : Int)) = false := beq_false_of_ne (by omega)
      have e2 : ((l.length : Int) != (m.length : Int)) = true := by rw [bne, e1]; rfl
      have q1 : ((l.length : Int) = (m.length : Int)) = False := eq_false (by omega)
      simp +contextual -dsimp (disch := omega) only [↓goDown, goUp, cr, simprocAttr, neqB, neqI, h1, h1', e1, e2, q1, u06, ln_Z, List.length_map, u0m, u09, low_Z, u08, u0n, Bool.not_true, Bool.true_and, Bool.false_and]
end Go.Proofs.YtiiepllnnjjmaaaDoor.Pi.Q
namespace Go.Proofs.YtiiepllnnjjmaaaDoor.Pi.Q
open Go Go.Proofs.YtiiepllnnjjmaaaDoor.Pi
attribute [local congr] ite_congr
def dfV (a : VT) : Bool := if a.num = 5 then a.nul else decide (1 ≤ a.num ∧ a.num ≤ 7)
def upV (a : VT) : VT := if a.num = 6 ∨ a.num = 7 then ⟨1, false, 0⟩ else a
def byV (a : VT) : Int := if a.num = 6 then 1 else if a.num = 7 then 2 else if a.num = 1 ∨ a.num = 3 then 4 else if a.num = 2 ∨ a.num = 4 then 8 else 0
theorem seven {n : Int} : n < 0 ∨ n = 0 ∨ n = 1 ∨ n = 2 ∨ n = 3 ∨ n = 4 ∨ n = 5 ∨ n = 6 ∨ n = 7 ∨ 7 < n := by omega
theorem ukl {H : Heap} {a : VT} : run (C u2s [.agg [.int .i64 a.num, .bool a.nul, .int .i64 a.heap]]) H = some (.ok (.bool (dfV a)) H) := by
  obtain ⟨n, u, h⟩ := a
  rw [u6f]
  unfold dfV
  simp only
  by_cases h5 : n = 5
  · simp +contextual -dsimp (disch := omega) only [↓goDown, goUp, cr, simprocAttr, eq_true h5]
  · by_cases h1 : 1 ≤ n
    · by_cases h7 : n ≤ 7
      · simp +contextual -dsimp (disch := omega) only [↓goDown, goUp, cr, simprocAttr, eq_false h5, eq_true h1, eq_true h7, decide_true, and_self]
      · simp +contextual -dsimp (disch := omega) only [↓goDown, goUp, cr, simprocAttr, eq_false h5, eq_true h1, eq_false h7, decide_false, and_false]
    · simp +contextual -dsimp (disch := omega) only [↓goDown, goUp, cr, simprocAttr, eq_false h5, eq_false h1, decide_false, false_and]
theorem ujq {H : Heap} {a : VT} : run (C u1o [.agg [.int .i64 a.num, .bool a.nul, .int .i64 a.heap]]) H = some (.ok (.bool (dfV a)) H) := by
  obtain ⟨n, u, h⟩ := a
  rw [u3e]
  unfold dfV
  simp only
  by_cases h1 : 1 ≤ n <;> by_cases h4 : n ≤ 4 <;> by_cases h6 : n = 6 <;> by_cases h7 : n = 7 <;> by_cases h5 : n = 5 <;> by_cases h8 : n ≤ 7 <;>
    first
      | (exfalso; omega)
      | simp +contextual -dsimp (disch := omega) only [↓goDown, goUp, cr, simprocAttr, h1, h4, h5, h6, h7, h8, decide_true, decide_false, and_self, and_true, true_and, and_false, false_and]
theorem ul4 {H : Heap} {a : VT} : run (C u30 [.agg [.int .i64 a.num, .bool a.nul, .int .i64 a.heap]]) H = some (.ok (.agg [.int .i64 (upV a).num, .bool (upV a).nul, .int .i64 (upV a).heap]) H) := by
  obtain ⟨n, u, h⟩ := a
  rw [u7c]
  unfold upV
  simp only
  by_cases h6 : n = 6
  · rw [if_pos (.inl h6)]
    simp +contextual -dsimp (disch := omega) only [↓goDown, goUp, cr, simprocAttr, eq_true h6]
  · by_cases h7 : n = 7
    · rw [if_pos (.inr h7)]
      simp +contextual -dsimp (disch := omega) only [↓goDown, goUp, cr, simprocAttr, eq_false h6, eq_true h7]
    · rw [if_neg (fun h => h.elim h6 h7)]
      simp +contextual -dsimp (disch := omega) only [↓goDown, goUp, cr, simprocAttr, eq_false h6, eq_false h7]
theorem ulc {H : Heap} {a : VT} : run (C u1p [.agg [.int .i64 a.num, .bool a.nul, .int .i64 a.heap]]) H = some (.ok (.agg [.int .i64 (upV a).num, .bool (upV a).nul, .int .i64 (upV a).heap]) H) := by
  obtain ⟨n, u, h⟩ := a
  rw [u3r]
  unfold upV
  simp only
  by_cases h6 : n = 6
  · rw [if_pos (.inl h6)]
    simp +contextual -dsimp (disch := omega) only [↓goDown, goUp, cr, simprocAttr, eq_true h6]
  · by_cases h7 : n = 7
    · rw [if_pos (.inr h7)]
      simp +contextual -dsimp (disch := omega) only [↓goDown, goUp, cr, simprocAttr, eq_false h6, eq_true h7]
    · rw [if_neg (fun h => h.elim h6 h7)]
      simp +contextual -dsimp (disch := omega) only [↓goDown, goUp, cr, simprocAttr, eq_false h6, eq_false h7]
theorem tab8 {H : Heap} {n : Int} (h0 : 0 ≤ n) (h7 : n ≤ 7) : run (ixA 8 1 none (.agg [.int .i64 0, .int .i64 4, .int .i64 8, .int .i64 4, .int .i64 8, .int .i64 0, .int .i64 1, .int .i64 2]) (.int .i64 n)) H = some (.ok (.int .i64 (if n = 6 then 1 else if n = 7 then 2 else if n = 1 ∨ n = 3 then 4 else if n = 2 ∨ n = 4 then 8 else 0)) H) := by
  rcases @seven n with h | rfl | rfl | rfl | rfl | rfl | rfl | rfl | rfl | h
  · omega
  all_goals first | rfl | omega
theorem pBytes {H : Heap} {a : VT} : run (C u3h [.agg [.int .i64 a.num, .bool a.nul, .int .i64 a.heap]]) H = some (.ok (.int .i64 (byV a)) H) := by
  obtain ⟨n, u, h⟩ := a
  rw [u8r]
  by_cases h0 : n < 0
  · rw [show byV ⟨n, u, h⟩ = 0 by unfold byV; simp only; (repeat rw [if_neg (by omega)])]
    simp +contextual -dsimp (disch := omega) only [↓goDown, goUp, cr, simprocAttr, eq_true h0]
  · by_cases h7 : 7 < n
    · rw [show byV ⟨n, u, h⟩ = 0 by unfold byV; simp only; (repeat rw [if_neg (by omega)])]
      simp +contextual -dsimp (disch := omega) only [↓goDown, goUp, cr, simprocAttr, eq_false h0, eq_true h7]
    · have ht := fun K => tab8 (H := K) (n := n) (by omega) (by omega)
      unfold byV
      simp +contextual -dsimp (disch := omega) only [↓goDown, goUp, cr, simprocAttr, eq_false h0, eq_false h7, ht]
theorem rBytes {H : Heap} {a : VT} : run (C u13 [.agg [.int .i64 a.num, .bool a.nul, .int .i64 a.heap]]) H = some (.ok (.int .i64 (byV a)) H) := by
  obtain ⟨n, u, h⟩ := a
  rw [u3z]
  unfold byV
  simp only
  by_cases h6 : n = 6 <;> by_cases h7 : n = 7 <;> by_cases h1 : n = 1 <;> by_cases h3 : n = 3 <;> by_cases h2 : n = 2 <;> by_cases h4 : n = 4 <;>
    first
      | (exfalso; omega)
      | simp +contextual -dsimp (disch := omega) only [↓goDown, goUp, cr, simprocAttr, u24, u1x, h1, h2, h3, h4, h6, h7, or_self, or_true, true_or, or_false, false_or]
theorem ugf {H : Heap} : run (C u2r []) H = some (.ok (.agg [.str ⟨#[]⟩, .str ⟨#[105, 51, 50]⟩, .str ⟨#[105, 54, 52]⟩, .str ⟨#[102, 51, 50]⟩, .str ⟨#[102, 54, 52]⟩, .str ⟨#[]⟩, .str ⟨#[105, 56]⟩, .str ⟨#[105, 49, 54]⟩]) H) := by
  rw [u6d]
  simp +contextual -dsimp (disch := omega) only [↓goDown, goUp, cr, simprocAttr]
theorem tabN {H : Heap} : run (ixA 8 1 none (.agg [.str ⟨#[]⟩, .str ⟨#[105, 51, 50]⟩, .str ⟨#[105, 54, 52]⟩, .str ⟨#[102, 51, 50]⟩, .str ⟨#[102, 54, 52]⟩, .str ⟨#[]⟩, .str ⟨#[105, 56]⟩, .str ⟨#[105, 49, 54]⟩]) (.int .i64 1)) H = some (.ok (.str ⟨#[105, 51, 50]⟩) H) := by rfl
theorem ukx {H : Heap} : run (C u3w [.agg [.int .i64 1, .bool false, .int .i64 0]]) H = some (.ok (.str ⟨#[105, 51, 50]⟩) H) := by
  rw [ua9]
  simp +contextual -dsimp (disch := omega) only [↓goDown, goUp, cr, simprocAttr, ugf, tabN]
theorem uie {H : Heap} : run (C u1t []) H = some (.ok (.bool true) H) := by
  rw [u3s]
  simp +contextual -dsimp (disch := omega) only [↓goDown, goUp, cr, simprocAttr, ukx]
theorem sumLen {α : Type} {m : α → Nat} : ∀ (l : List α), (∀ a ∈ l, 1 ≤ m a) → l.length ≤ sumL m l
  | [], _ => Nat.le_refl _
  | a :: l, h => by
    have h1 := h a (by simp)
    have h2 := sumLen l (fun b hb => h b (by simp [hb]))
    simp only [List.length_cons, sumL]
    omega
theorem sumMem {α : Type} {m : α → Nat} : ∀ (l : List α) (a : α), a ∈ l → m a ≤ sumL m l
  | b :: l, a, h => by
    simp only [sumL]
    rcases List.mem_cons.mp h with rfl | h
    · omega
    · have := sumMem (m := m) l a h
      omega
theorem sgFit {v : SG} (h : ms_SG v ≤ 1048576) : v.plain.fit := by
  have h1 := sumLen (m := fun a => ms_V a) v.comp.ps.l (fun a _ => by unfold ms_V; omega)
  have h2 := sumLen (m := fun a => ms_V a) v.comp.rs.l (fun a _ => by unfold ms_V; omega)
  have h3 := sumLen (m := fun a => ms_F a) v.comp.fs.l (fun a _ => by unfold ms_F; omega)
  have h4 := sumLen (m := fun _ => 1) v.sup.l (fun a _ => Nat.le_refl _)
  unfold ms_SG ms_CG at h
  exact ⟨by show v.sup.l.length < _; omega, by show v.comp.ps.l.length < _; omega, by show v.comp.rs.l.length < _; omega, by show v.comp.fs.l.length < _; omega⟩
theorem rgFit {v : RG} (hm : ms_RG v ≤ 1048576) : v.plain.fit := by
  have h1 := sumLen (m := fun a => ms_SG a) v.types.l (fun a _ => by unfold ms_SG; omega)
  unfold ms_RG at hm
  refine ⟨by simp only [RG.plain, List.length_map]; omega, fun t ht => ?_⟩
  simp only [RG.plain, List.mem_map] at ht
  obtain ⟨s, hs, rfl⟩ := ht
  exact sgFit (by have := sumMem (m := fun a => ms_SG a) _ s hs; omega)
theorem sames_of {a b : VT} {g h : RG} {H : Heap} (hm : ms_RG g ≤ 1048576) :
    run (C u1u [.agg (cs_V a), .agg (cs_V b), .agg (cs_RG g), .agg (cs_RG h)]) H = some (.ok (.bool true) H) := by
  have hf := rgFit hm
  have s1 := fun K => pSame (H := K) (a := a) (b := b)
  have s2 := fun K => rSameV (H := K) (a := a) (b := b)
  have s3 := fun K => pSame (H := K) (a := b) (b := b)
  rw [u4i] at s3
  have d1 := fun K => ukl (H := K) (a := a)
  have d2 := fun K => ujq (H := K) (a := a)
  have u1 := fun K => ul4 (H := K) (a := a)
  have u2 := fun K => ulc (H := K) (a := a)
  have y1 := fun K => pBytes (H := K) (a := a)
  have y2 := fun K => rBytes (H := K) (a := a)
  have e1 := fun K => eql_VV (H := K) (a := upV a) (b := upV a)
  simp only [decide_true] at e1
  have r1 := fun K => pRec (H := K) (b := h) hf
  have r2 := fun K => refRec (H := K) (b := h) hf
  have r3 := fun K => pRec (H := K) (b := g) hf
  rw [ugi] at r3
  rw [u2v]
  unfold cs_V
  unfold cs_RG at r1 r2 r3 ⊢
  simp +contextual -dsimp (disch := omega) only [↓goDown, goUp, cr, simprocAttr, u06, u0m, u09, low_Z, u08, u0n, s1, s2, s3, d1, d2, u1, u2, y1, y2, e1, r1, r2, r3, eqlB, eqlI, beq_self_eq_true, uie]
end Go.Proofs.YtiiepllnnjjmaaaDoor.Pi.Q
