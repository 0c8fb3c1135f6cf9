/- What the law rests on, part 4 of 4: a reading of the program's code over told data, and what it comes to. -/
import Derived.Test.YtiamjepnlnjlfaaDoorPiJ2
set_option linter.unusedVariables false
set_option linter.unusedSimpArgs false
set_option maxRecDepth 100000
namespace Go.Proofs.YtiamjepnlnjlfaaDoor.Pi.Q
open Go Go.Proofs.YtiamjepnlnjlfaaDoor.Pi
attribute [local congr] ite_congr
variable {H : Heap} {z : Bool}
def hd8 : List UInt8 := [0, 97, 115, 109, 1, 0, 0, 0]
def part (v : SE) (w : List UInt8) : List UInt8 := [UInt8.ofNat v.id.toNat] ++ putU (w.length + v.d.length) ++ (w ++ v.d)
def jnR : Int → List UInt8 → List SE → List UInt8 × Nat
  | last, A, [] => if 1048576 < A.length then ([], 2) else (A, 0)
  | last, A, v :: r => if rkN v.id < 0 then ([], 4) else if 0 < rkN v.id then (if v.nm = [] then (if rkN v.id ≤ last then ([], 20) else jnR (if last < rkN v.id then rkN v.id else last) (A ++ part v []) r) else ([], 4))
    else if (wName v.nm).2 = 0 then jnR (if last < rkN v.id then rkN v.id else last) (A ++ part v (wName v.nm).1) r else ([], (wName v.nm).2)
def jnP (x : List UInt8 × Nat) : PV := .tup [accB x.1, .int .i64 x.2]
def tot : List SE → Nat
  | [] => 0
  | v :: r => v.nm.length + v.d.length + 40 + tot r
theorem rk_id {n : Int} (h : ¬ rkN n < 0) : 0 ≤ n ∧ n ≤ 13 := by
  unfold rkN at h
  by_cases g : n < 0 ∨ 13 < n
  · rw [if_pos g] at h; omega
  · omega
theorem ube {u : List UInt8} (hu : u.length < 2 ^ 60) : (wName u).1.length ≤ u.length + 10 := by
  have := u47 (n := u.length) (by omega)
  unfold wName
  split
  · simp
  · split
    · simp
    · simp; omega
theorem u6d {v : SE} {w : List UInt8} (h : w.length + v.d.length < 2 ^ 60) : (part v w).length ≤ w.length + v.d.length + 11 := by
  have := u47 (n := w.length + v.d.length) (by omega)
  unfold part
  simp
  omega
theorem u50 {k : IntKind} {a b : Int} : run (mx (.int k a) (.int k b)) H = some (.ok (.int k (if a < b then b else a)) H) := by
  unfold run mx
  simp only [decide_true, cond_true]
  rfl
theorem ap_BZ {acc d : List UInt8} {zd : Bool} {K : Heap} (h : acc.length + d.length ≤ 140737488355328) : run (ap true 1 1 (accB acc) (LZ zd 1 (bytes d))) K = some (.ok (accB (acc ++ d)) K) := by
  cases d with
  | nil =>
    rw [List.append_nil]
    cases acc with
    | nil => cases zd <;> rfl
    | cons y a =>
      have h2 : ((byt y :: bytes a).length + 0) * max 1 1 ≤ 140737488355328 := by simpa [bytes] using h
      have h2 : (y.toNat :: (a.map UInt8.toNat)).length ≤ 140737488355328 := by simpa using h
      unfold accB accP run ap tail growB
      have h3 : ((byt y :: bytes a).length + ([] : List PV).length) * max 1 1 ≤ 140737488355328 := by simpa [bytes] using h
      cases zd <;>
      · simp only [bytes, List.map_cons, List.map_nil, LZ] at h3 ⊢
        simp only [beq_self_eq_true, Bool.or_true, Bool.true_or, Bool.false_or, if_true, if_false, cond_true, cond_false, Bool.true_and, decide_eq_true h3, List.append_nil, Bool.false_eq_true, ite_false, ite_true]
        rfl
  | cons x r =>
    have h1 := ap_BB (acc := acc) (u := x :: r) (K := K) (by simp) h
    exact (show run (ap true 1 1 (accB acc) (LZ zd 1 (bytes (x :: r)))) K = run (ap true 1 1 (accB acc) (accB (x :: r))) K from by
      cases acc <;> rfl).trans h1
theorem u58 : ByteArray.toList ⟨#[]⟩ = [] := ByteArray.toList_eq ⟨#[]⟩
theorem uj6 {u : List UInt8} : (u == []) = decide (u = []) := by cases u <;> rfl
theorem ubn {K : Heap} {v2 v3 : PV} {A w : List UInt8} {last rk : Int} {v : SE} {c : Nat} {L N : PV} {i : Nat} (hK : hget K c = some (.cells [.int .i64 v.id, SB v.nm, LZ v.z 1 (bytes v.d), .int .i64 v.pl]))
    (h0 : 0 ≤ v.id) (h1 : v.id ≤ 13) (hi : i < 2 ^ 60) (hA : A.length + w.length + v.d.length + 20 ≤ 2 ^ 46) :
    run (u0k v2 v3 (accB A) (.int .i64 last) (.ptr c 0) (.int .i64 rk) (accB w) L N (.int .i64 i)) K = run (u11 v2 v3 (accB (A ++ part v w)) (.int .i64 (if last < rk then rk else last)) L N (.int .i64 (i + 1 : Nat))) K := by
  have hid := get_lt hK
  have ha1 := fun K => ap_BZ (K := K) (acc := w) (d := v.d) (zd := v.z) (by omega)
  obtain ⟨n, hn⟩ := Int.eq_ofNat_of_zero_le h0
  have w1 : IntKind.u8.wrap v.id = (n : Int) := by rw [hn]; exact w_u8 (by omega)
  have hb1 := fun K => bs_byt (K := K) (n := n) (by omega)
  have hb2 := fun K => u5r (K := K) (n := n) (by omega)
  have hl : (w ++ v.d).length = w.length + v.d.length := List.length_append
  have ha2 := fun K => ap_B (K := K) (acc := A) (c := UInt8.ofNat n) (by omega)
  have hp := fun K => uju (H := K) (n := w.length + v.d.length) (by omega)
  have w2 : IntKind.u64.wrap ((w.length + v.d.length : Nat) : Int) = ((w.length + v.d.length : Nat) : Int) := w_u64 (by omega)
  have h10 := u47 (n := w.length + v.d.length) (by omega)
  have ha3 := fun K => ap_BB (K := K) (acc := A ++ [UInt8.ofNat n]) (u := putU (w.length + v.d.length)) uar (by rw [List.length_append]; simp; omega)
  have ha4 := fun K => ap_BZ (K := K) (acc := A ++ [UInt8.ofNat n] ++ putU (w.length + v.d.length)) (d := w ++ v.d) (zd := true) (by simp; omega)
  have e1 : ((i : Int) + 1) = ((i + 1 : Nat) : Int) := rfl
  have w3 : IntKind.i64.wrap ((i + 1 : Nat) : Int) = ((i + 1 : Nat) : Int) := w_i64 (by omega)
  have ep : A ++ [UInt8.ofNat n] ++ putU (w.length + v.d.length) ++ (w ++ v.d) = A ++ part v w := by
    unfold part
    rw [hn]
    simp only [Int.toNat_natCast, List.append_assoc]
  rw [ep] at ha4
  have hb3 : (bytes (w ++ v.d)).length = w.length + v.d.length := by rw [List.length_map, hl]
  rw [u2k]
  simp +contextual -dsimp (disch := omega) only [↓goDown, goUp, cr, simprocAttr, u50, hK, ha1, w1, hb1, hb2, ha2, u29, ln_Z, hb3, w2, hp, ha3, ha4, e1, w3, u0v, u0t, u0u, low_Z, strip_Z, u0j, u0i, u2b]
end Go.Proofs.YtiamjepnlnjlfaaDoor.Pi.Q
namespace Go.Proofs.YtiamjepnlnjlfaaDoor.Pi.Q
open Go Go.Proofs.YtiamjepnlnjlfaaDoor.Pi
attribute [local congr] ite_congr
variable {H : Heap} {z : Bool}
theorem u6m {v : SE} {r : List SE} : tot (v :: r) = v.nm.length + v.d.length + 40 + tot r := rfl
theorem u7y {l : List SE} {zl : Bool} {v2 v3 : PV} (hl : l.length < 2 ^ 40) : ∀ (m i : Nat) (A : List UInt8) (last : Int) (K : Heap), i + m = l.length → A.length + tot (l.drop i) ≤ 2 ^ 46 →
    ∃ E, run (u11 v2 v3 (accB A) (.int .i64 last) (LZ zl 4 (l.map encSE)) (.int .i64 l.length) (.int .i64 i)) K = some (.ok (jnP (jnR last A (l.drop i))) (hadd K E))
  | 0, i, A, last, K, h, hA => by
    have g : ((i : Int) < (l.length : Int)) = False := eq_false (by omega)
    refine ⟨[], ?_⟩
    rw [u2j, List.drop_eq_nil_of_le (by omega), show hadd K [] = K from List.append_nil K]
    unfold jnR
    have hb : (bytes A).length = A.length := List.length_map _
    by_cases g2 : 1048576 < A.length
    · have g2' : ((1048576 : Int) < (A.length : Int)) = True := eq_true (by omega)
      rw [if_pos g2]
      simp +contextual -dsimp (disch := omega) only [↓goDown, goUp, cr, simprocAttr, g, u29, ln_Z, hb, g2']
      rfl
    · have g2' : ((1048576 : Int) < (A.length : Int)) = False := eq_false (by omega)
      rw [if_neg g2]
      simp +contextual -dsimp (disch := omega) only [↓goDown, goUp, cr, simprocAttr, g, u29, ln_Z, hb, g2', u2b, low_B]
      rfl
  | m + 1, i, A, last, K, h, hA => by
    have g : ((i : Int) < (l.length : Int)) = True := eq_true (by omega)
    obtain ⟨v, hv, hdr⟩ := u37 (l := l) (i := i) (by omega)
    rw [hdr, u6m] at hA
    have hia := fun K => ia_SE (H := K) (zl := zl) hv
    have hr := fun K => uk2 (H := K) (n := v.id)
    have hK2 : hget (hadd K [.cells [.int .i64 v.id, SB v.nm, LZ v.z 1 (bytes v.d), .int .i64 v.pl]]) K.length = some (.cells [.int .i64 v.id, SB v.nm, LZ v.z 1 (bytes v.d), .int .i64 v.pl]) := u4c
    rw [u2j, hdr, jnR]
    by_cases c1 : rkN v.id < 0
    · have c1' : (rkN v.id < 0) = True := eq_true c1
      rw [if_pos c1]
      refine ⟨[.cells [.int .i64 v.id, SB v.nm, LZ v.z 1 (bytes v.d), .int .i64 v.pl]], ?_⟩
      simp +contextual -dsimp (disch := omega) only [↓goDown, goUp, cr, simprocAttr, g, hia, u0v, u0t, u0u, low_Z, strip_Z, u0j, u0i, hr, c1']
      rfl
    · have c1' : (rkN v.id < 0) = False := eq_false c1
      obtain ⟨i0, i1⟩ := rk_id c1
      rw [if_neg c1]
      by_cases c2 : 0 < rkN v.id
      · have c2' : (0 < rkN v.id) = True := eq_true c2
        have c2n : (rkN v.id = 0) = False := eq_false (by omega)
        rw [if_pos c2]
        by_cases c3 : v.nm = []
        · have b3 : (v.nm == []) = true := by rw [c3]; rfl
          rw [if_pos c3]
          by_cases c4 : rkN v.id ≤ last
          · have c4' : (rkN v.id ≤ last) = True := eq_true c4
            rw [if_pos c4]
            refine ⟨[.cells [.int .i64 v.id, SB v.nm, LZ v.z 1 (bytes v.d), .int .i64 v.pl]], ?_⟩
            simp +contextual -dsimp (disch := omega) only [↓goDown, goUp, cr, simprocAttr, g, hia, u0v, u0t, u0u, low_Z, strip_Z, u0j, u0i, hr, c1', c2', toL_SB, u58, b3, c4']
            rfl
          · have c4' : (rkN v.id ≤ last) = False := eq_false c4
            rw [if_neg c4]
            have hl2 := u6d (v := v) (w := []) (by simp; omega)
            have hl3 : ([] : List UInt8).length = 0 := rfl
            have hh := ubn (v2 := v2) (v3 := v3) (A := A) (w := []) (last := last) (rk := rkN v.id) (L := LZ zl 4 (l.map encSE)) (N := .int .i64 l.length) (i := i) hK2 i0 i1 (by omega) (by omega)
            have hh : run (u0k v2 v3 (accB A) (.int .i64 last) (.ptr K.length 0) (.int .i64 (rkN v.id)) (.slice false true 0 []) (LZ zl 4 (l.map encSE)) (.int .i64 l.length) (.int .i64 i)) _ = _ := hh
            obtain ⟨E, ih⟩ := u7y hl (zl := zl) (v2 := v2) (v3 := v3) m (i + 1) (A ++ part v []) (if last < rkN v.id then rkN v.id else last) (hadd K [.cells [.int .i64 v.id, SB v.nm, LZ v.z 1 (bytes v.d), .int .i64 v.pl]]) (by omega) (by rw [List.length_append]; omega)
            rw [ih, u2s] at hh
            refine ⟨[.cells [.int .i64 v.id, SB v.nm, LZ v.z 1 (bytes v.d), .int .i64 v.pl]] ++ E, ?_⟩
            · simp +contextual -dsimp (disch := omega) only [↓goDown, goUp, cr, simprocAttr, g, hia, u0v, u0t, u0u, low_Z, strip_Z, u0j, u0i, hr, c1', c2', toL_SB, u58, b3, c4', c2n]
              exact hh
        · have b3 : (v.nm == []) = false := by rw [uj6]; exact decide_eq_false c3
          rw [if_neg c3]
          refine ⟨[.cells [.int .i64 v.id, SB v.nm, LZ v.z 1 (bytes v.d), .int .i64 v.pl]], ?_⟩
          simp +contextual -dsimp (disch := omega) only [↓goDown, goUp, cr, simprocAttr, g, hia, u0v, u0t, u0u, low_Z, strip_Z, u0j, u0i, hr, c1', c2', toL_SB, u58, b3]
          rfl
      · have c2' : (0 < rkN v.id) = False := eq_false c2
        have c0 : rkN v.id = 0 := by omega
        have hpn := fun K => ugq (H := K) (u := v.nm) (by omega)
        have hwl := ube (u := v.nm) (by omega)
        rw [if_neg c2]
        unfold putP at hpn
        by_cases c5 : (wName v.nm).2 = 0
        · have hl2 := u6d (v := v) (w := (wName v.nm).1) (by omega)
          have hh := ubn (v2 := v2) (v3 := v3) (A := A) (w := (wName v.nm).1) (last := last) (rk := rkN v.id) (L := LZ zl 4 (l.map encSE)) (N := .int .i64 l.length) (i := i) hK2 i0 i1 (by omega) (by omega)
          obtain ⟨E, ih⟩ := u7y hl (zl := zl) (v2 := v2) (v3 := v3) m (i + 1) (A ++ part v (wName v.nm).1) (if last < rkN v.id then rkN v.id else last) (hadd K [.cells [.int .i64 v.id, SB v.nm, LZ v.z 1 (bytes v.d), .int .i64 v.pl]]) (by omega) (by rw [List.length_append]; omega)
          rw [ih, u2s] at hh
          rw [if_pos c5]
          rw [c5] at hpn
          rw [c0] at hh hr c1' c2' ⊢
          refine ⟨[.cells [.int .i64 v.id, SB v.nm, LZ v.z 1 (bytes v.d), .int .i64 v.pl]] ++ E, ?_⟩
          · simp +contextual -dsimp (disch := omega) only [↓goDown, goUp, cr, simprocAttr, g, hia, u0v, u0t, u0u, low_Z, strip_Z, u0j, u0i, hr, Int.lt_irrefl, hpn, u2b, show ((0 : Nat) : Int) = 0 from rfl]
            exact hh
        · have c5' : (((wName v.nm).2 : Nat) : Int) = 0 ↔ False := iff_false_intro (by omega)
          rw [if_neg c5]
          rw [c0] at hr
          refine ⟨[.cells [.int .i64 v.id, SB v.nm, LZ v.z 1 (bytes v.d), .int .i64 v.pl]], ?_⟩
          simp +contextual -dsimp (disch := omega) only [↓goDown, goUp, cr, simprocAttr, g, hia, u0v, u0t, u0u, low_Z, strip_Z, u0j, u0i, hr, Int.lt_irrefl, hpn, u2b, c5']
          rfl
end Go.Proofs.YtiamjepnlnjlfaaDoor.Pi.Q
namespace Go.Proofs.YtiamjepnlnjlfaaDoor.Pi.Q
open Go Go.Proofs.YtiamjepnlnjlfaaDoor.Pi
attribute [local congr] ite_congr
variable {H : Heap} {z : Bool}
theorem ukz : run (C u3n []) H = some (.ok (.agg [.int .u8 0, .int .u8 97, .int .u8 115, .int .u8 109, .int .u8 1, .int .u8 0, .int .u8 0, .int .u8 0]) H) := by
  rw [u8s]
  simp +contextual -dsimp (disch := omega) only [↓goDown, goUp, cr, simprocAttr]
theorem slA_is : run (slA true 8 (.ptr H.length 0) none) (hadd H [.cells [.int .u8 0, .int .u8 97, .int .u8 115, .int .u8 109, .int .u8 1, .int .u8 0, .int .u8 0, .int .u8 0]]) = some (.ok (accB hd8) (hadd H [.dead])) := by
  have hg : (hadd H [.cells [.int .u8 0, .int .u8 97, .int .u8 115, .int .u8 109, .int .u8 1, .int .u8 0, .int .u8 0, .int .u8 0]])[List.length H]? = some (.cells [.int .u8 0, .int .u8 97, .int .u8 115, .int .u8 109, .int .u8 1, .int .u8 0, .int .u8 0, .int .u8 0]) := by unfold hadd; simp
  have hs : List.set (hadd H [.cells [.int .u8 0, .int .u8 97, .int .u8 115, .int .u8 109, .int .u8 1, .int .u8 0, .int .u8 0, .int .u8 0]]) (List.length H) .dead = hadd H [.dead] := by unfold hadd; simp
  show slH true 8 H.length _ _ (bnd 8 none) = _
  rw [hg]
  unfold slH bnd
  simp only [stripC, List.map_cons, List.map_nil, List.length_cons, List.length_nil]
  rw [hs]
  rfl
theorem uhy {x : List UInt8 × Nat} {n : Nat} : (jnP x).low n = true := by simp [jnP, u8e, u34, u3p, u51, low_B]
theorem uln {l : List SE} {zl : Bool} (hl : l.length < 2 ^ 40) (ht : tot l ≤ 2 ^ 45) : run (C u2r [LZ zl 4 (l.map encSE)]) H = some (.ok (jnP (jnR 0 hd8 l)) H) := by
  obtain ⟨E, h⟩ := u7y (zl := zl) (v2 := .slice false true 0 []) (v3 := .int .i64 0) hl l.length 0 hd8 0 (hadd H [.dead]) (by omega) (by rw [List.drop_zero]; simp only [hd8, List.length_cons, List.length_nil]; omega)
  rw [List.drop_zero] at h
  have h : run (u11 (.slice false true 0 []) (.int .i64 0) (accB hd8) (.int .i64 0) (LZ zl 4 (l.map encSE)) (.int .i64 l.length) (.int .i64 0)) (hadd H [.dead]) = _ := h
  have hm := fun K => ukz (H := K)
  rw [uax]
  simp +contextual -dsimp (disch := omega) only [↓goDown, goUp, cr, simprocAttr, hm, slA_is, strip_Z, ln_Z, List.length_map, h, uhy]
def jnQ : Int → List UInt8 → Bool → List SE → List UInt8 × Nat
  | last, A, lg, [] => if lg = true then ([], 2) else if 1048576 < A.length then ([], 2) else (A, 0)
  | last, A, lg, v :: r =>
    let w := if rkN v.id = 0 then (wName v.nm).1 else []
    let lg' := lg || decide (1048576 < w.length + v.d.length ∨ 1048576 < A.length + (w.length + v.d.length))
    if rkN v.id < 0 then ([], 4) else if 0 < rkN v.id then (if v.nm = [] then (if rkN v.id ≤ last then ([], 20) else jnQ (if last < rkN v.id then rkN v.id else last) (if lg' = true then A else A ++ part v w) lg' r) else ([], 4))
    else if (wName v.nm).2 = 0 then jnQ (if last < rkN v.id then rkN v.id else last) (if lg' = true then A else A ++ part v w) lg' r else ([], (wName v.nm).2)
theorem um2 {v : SE} {w : List UInt8} : w.length + v.d.length ≤ (part v w).length := by
  unfold part
  simp
  omega
theorem uhv : ∀ (l : List SE) (last : Int) (A B : List UInt8) (lg : Bool), (lg = false → A = B) → (lg = true → 1048576 < A.length) → jnR last A l = jnQ last B lg l
  | [], last, A, B, lg, h1, h2 => by
    unfold jnR jnQ
    cases lg with
    | true => rw [if_pos (h2 rfl), if_pos rfl]
    | false => rw [h1 rfl]; rfl
  | v :: r, last, A, B, lg, h1, h2 => by
    have key : ∀ w last', jnR last' (A ++ part v w) r = jnQ last' (if (lg || decide (1048576 < w.length + v.d.length ∨ 1048576 < B.length + (w.length + v.d.length))) = true then B else B ++ part v w) (lg || decide (1048576 < w.length + v.d.length ∨ 1048576 < B.length + (w.length + v.d.length))) r := fun w last' => by
      have hp := um2 (v := v) (w := w)
      apply uhv
      · intro h
        rw [h]
        have hlg : lg = false := by cases lg <;> simp_all
        rw [h1 hlg]
        rfl
      · intro h
        rw [List.length_append]
        cases lg with
        | true => have := h2 rfl; omega
        | false =>
          have := h1 rfl
          subst this
          simp at h
          omega
    rw [jnR, jnQ]
    by_cases c1 : rkN v.id < 0
    · rw [if_pos c1, if_pos c1]
    · rw [if_neg c1, if_neg c1]
      by_cases c2 : 0 < rkN v.id
      · rw [if_pos c2, if_pos c2, if_neg (show ¬ rkN v.id = 0 by omega), key]
      · rw [if_neg c2, if_neg c2, if_pos (show rkN v.id = 0 by omega), key]
end Go.Proofs.YtiamjepnlnjlfaaDoor.Pi.Q
namespace Go.Proofs.YtiamjepnlnjlfaaDoor.Pi.Q
open Go Go.Proofs.YtiamjepnlnjlfaaDoor.Pi
attribute [local congr] ite_congr
variable {H : Heap} {z : Bool}
theorem u8y {K : Heap} {v0 v2 v3 : PV} {A w : List UInt8} {last : Int} {v : SE} {c : Nat} {lg : Bool} {i : Nat} (hK : hget K c = some (.cells [.int .i64 v.id, SB v.nm, LZ v.z 1 (bytes v.d), .int .i64 v.pl]))
    (h0 : 0 ≤ v.id) (h1 : v.id ≤ 13) (hi : i < 2 ^ 60) (hA : A.length + w.length + v.d.length + 20 ≤ 2 ^ 46) :
    run (u0a v0 v2 v3 (accB A) (.int .i64 last) (.bool lg) (.int .i64 i) (.ptr c 0) (accB w)) K =
      run (u0g v0 v2 v3 (accB (if (lg || decide (1048576 < w.length + v.d.length ∨ 1048576 < A.length + (w.length + v.d.length))) = true then A else A ++ part v w)) (.int .i64 last) (.bool (lg || decide (1048576 < w.length + v.d.length ∨ 1048576 < A.length + (w.length + v.d.length)))) (.int .i64 (i + 1 : Nat))) K := by
  have hid := get_lt hK
  obtain ⟨n, hn⟩ := Int.eq_ofNat_of_zero_le h0
  have w1 : IntKind.u8.wrap v.id = (n : Int) := by rw [hn]; exact w_u8 (by omega)
  have hb1 := fun K => bs_byt (K := K) (n := n) (by omega)
  have hb2 := fun K => u5r (K := K) (n := n) (by omega)
  have ha2 := fun K => ap_B (K := K) (acc := A) (c := UInt8.ofNat n) (by omega)
  have hp := fun K => ufr (H := K) (n := w.length + v.d.length) (by omega)
  have e0 : ((w.length : Int) + (v.d.length : Int)) = ((w.length + v.d.length : Nat) : Int) := rfl
  have w0 : IntKind.i64.wrap ((w.length + v.d.length : Nat) : Int) = ((w.length + v.d.length : Nat) : Int) := w_i64 (by omega)
  have w2 : IntKind.u64.wrap ((w.length + v.d.length : Nat) : Int) = ((w.length + v.d.length : Nat) : Int) := w_u64 (by omega)
  have e9 : ((A.length : Int) + ((w.length + v.d.length : Nat) : Int)) = ((A.length + (w.length + v.d.length) : Nat) : Int) := rfl
  have w9 : IntKind.i64.wrap ((A.length + (w.length + v.d.length) : Nat) : Int) = ((A.length + (w.length + v.d.length) : Nat) : Int) := w_i64 (by omega)
  have h10 := u47 (n := w.length + v.d.length) (by omega)
  have ha3 := fun K => ap_BB (K := K) (acc := A ++ [UInt8.ofNat n]) (u := putU (w.length + v.d.length)) uar (by rw [List.length_append]; simp; omega)
  have ha4 := fun K => ap_BZ (K := K) (acc := A ++ [UInt8.ofNat n] ++ putU (w.length + v.d.length)) (d := w) (zd := true) (by simp; omega)
  have ha5 := fun K => ap_BZ (K := K) (acc := A ++ [UInt8.ofNat n] ++ putU (w.length + v.d.length) ++ w) (d := v.d) (zd := v.z) (by simp; omega)
  have e1 : ((i : Int) + 1) = ((i + 1 : Nat) : Int) := rfl
  have w3 : IntKind.i64.wrap ((i + 1 : Nat) : Int) = ((i + 1 : Nat) : Int) := w_i64 (by omega)
  have ep : A ++ [UInt8.ofNat n] ++ putU (w.length + v.d.length) ++ w ++ v.d = A ++ part v w := by
    unfold part
    rw [hn]
    simp only [Int.toNat_natCast, List.append_assoc]
  rw [ep] at ha5
  have lw : (bytes w).length = w.length := List.length_map _
  have ld' : (bytes v.d).length = v.d.length := List.length_map _
  have lA : (bytes A).length = A.length := List.length_map _
  rw [u1x]
  cases lg with
  | true =>
    rw [if_pos (by rfl)]
    simp +contextual -dsimp (disch := omega) only [↓goDown, goUp, cr, simprocAttr, hK, u29, ln_Z, lw, ld', lA, e0, w0, u0v, u0t, u0u, low_Z, strip_Z, u0j, u0i, u2b, un_not, u0l, e1, w3, Bool.true_or]
  | false =>
    rw [Bool.false_or]
    by_cases g1 : 1048576 < w.length + v.d.length
    · have g1' : ((1048576 : Int) < ((w.length + v.d.length : Nat) : Int)) = True := eq_true (by omega)
      rw [decide_eq_true (.inl g1), if_pos rfl]
      simp +contextual -dsimp (disch := omega) only [↓goDown, goUp, cr, simprocAttr, hK, u29, ln_Z, lw, ld', lA, e0, w0, u0v, u0t, u0u, low_Z, strip_Z, u0j, u0i, u2b, un_not, u0l, e1, w3, g1']
    · have g1' : ((1048576 : Int) < ((w.length + v.d.length : Nat) : Int)) = False := eq_false (by omega)
      by_cases g2 : 1048576 < A.length + (w.length + v.d.length)
      · have g2' : ((1048576 : Int) < ((A.length + (w.length + v.d.length) : Nat) : Int)) = True := eq_true (by omega)
        rw [decide_eq_true (.inr g2), if_pos rfl]
        simp +contextual -dsimp (disch := omega) only [↓goDown, goUp, cr, simprocAttr, hK, u29, ln_Z, lw, ld', lA, e0, w0, u0v, u0t, u0u, low_Z, strip_Z, u0j, u0i, u2b, un_not, u0l, e1, w3, g1', e9, w9, g2']
      · have g2' : ((1048576 : Int) < ((A.length + (w.length + v.d.length) : Nat) : Int)) = False := eq_false (by omega)
        rw [decide_eq_false (by omega), if_neg (by decide)]
        simp +contextual -dsimp (disch := omega) only [↓goDown, goUp, cr, simprocAttr, hK, u29, ln_Z, lw, ld', lA, e0, w0, u0v, u0t, u0u, low_Z, strip_Z, u0j, u0i, u2b, un_not, u0l, e1, w3, g1', e9, w9, g2', w1, hb1, hb2, ha2, w2, hp, ha3, ha4, ha5]
end Go.Proofs.YtiamjepnlnjlfaaDoor.Pi.Q
namespace Go.Proofs.YtiamjepnlnjlfaaDoor.Pi.Q
open Go Go.Proofs.YtiamjepnlnjlfaaDoor.Pi
attribute [local congr] ite_congr
variable {H : Heap} {z : Bool}
theorem u5s {l : List SE} {zl : Bool} {v2 v3 : PV} (hl : l.length < 2 ^ 40) : ∀ (m i : Nat) (A : List UInt8) (last : Int) (lg : Bool) (K : Heap), i + m = l.length → A.length + tot (l.drop i) ≤ 2 ^ 46 →
    ∃ E, run (u0g (LZ zl 4 (l.map encSE)) v2 v3 (accB A) (.int .i64 last) (.bool lg) (.int .i64 i)) K = some (.ok (jnP (jnQ last A lg (l.drop i))) (hadd K E))
  | 0, i, A, last, lg, K, h, hA => by
    have g : ((i : Int) < (l.length : Int)) = False := eq_false (by omega)
    refine ⟨[], ?_⟩
    rw [u1r, List.drop_eq_nil_of_le (by omega), show hadd K [] = K from List.append_nil K]
    unfold jnQ
    have hb : (bytes A).length = A.length := List.length_map _
    cases lg with
    | true =>
      rw [if_pos rfl]
      simp +contextual -dsimp (disch := omega) only [↓goDown, goUp, cr, simprocAttr, g, strip_Z, u29, ln_Z, hb, List.length_map]
      rfl
    | false =>
      rw [if_neg (by decide)]
      by_cases g2 : 1048576 < A.length
      · have g2' : ((1048576 : Int) < (A.length : Int)) = True := eq_true (by omega)
        rw [if_pos g2]
        simp +contextual -dsimp (disch := omega) only [↓goDown, goUp, cr, simprocAttr, g, strip_Z, u29, ln_Z, hb, g2', List.length_map]
        rfl
      · have g2' : ((1048576 : Int) < (A.length : Int)) = False := eq_false (by omega)
        rw [if_neg g2]
        simp +contextual -dsimp (disch := omega) only [↓goDown, goUp, cr, simprocAttr, g, strip_Z, u29, ln_Z, hb, g2', u2b, low_B, List.length_map]
        rfl
  | m + 1, i, A, last, lg, K, h, hA => by
    have g : ((i : Int) < (l.length : Int)) = True := eq_true (by omega)
    obtain ⟨v, hv, hdr⟩ := u37 (l := l) (i := i) (by omega)
    rw [hdr, u6m] at hA
    have hia := fun K => ia_SE (H := K) (zl := zl) hv
    have hr := fun K => uep (H := K) (n := v.id)
    have hK2 : hget (hadd K [.cells [.int .i64 v.id, SB v.nm, LZ v.z 1 (bytes v.d), .int .i64 v.pl]]) K.length = some (.cells [.int .i64 v.id, SB v.nm, LZ v.z 1 (bytes v.d), .int .i64 v.pl]) := u4c
    rw [u1r, hdr, jnQ]
    by_cases c1 : rkN v.id < 0
    · have c1' : (rkN v.id < 0) = True := eq_true c1
      rw [if_pos c1]
      refine ⟨[.cells [.int .i64 v.id, SB v.nm, LZ v.z 1 (bytes v.d), .int .i64 v.pl]], ?_⟩
      simp +contextual -dsimp (disch := omega) only [↓goDown, goUp, cr, simprocAttr, g, hia, u0v, u0t, u0u, low_Z, strip_Z, u0j, u0i, ln_Z, List.length_map, u50, hr, c1']
      rfl
    · have c1' : (rkN v.id < 0) = False := eq_false c1
      obtain ⟨i0, i1⟩ := rk_id c1
      rw [if_neg c1]
      by_cases c2 : 0 < rkN v.id
      · have c2' : (0 < rkN v.id) = True := eq_true c2
        have c2n : (rkN v.id = 0) = False := eq_false (by omega)
        rw [if_neg (show ¬ rkN v.id = 0 by omega), if_pos c2]
        by_cases c3 : v.nm = []
        · have b3 : (v.nm == []) = true := by rw [c3]; rfl
          rw [if_pos c3]
          by_cases c4 : rkN v.id ≤ last
          · have c4' : (rkN v.id ≤ last) = True := eq_true c4
            rw [if_pos c4]
            refine ⟨[.cells [.int .i64 v.id, SB v.nm, LZ v.z 1 (bytes v.d), .int .i64 v.pl]], ?_⟩
            simp +contextual -dsimp (disch := omega) only [↓goDown, goUp, cr, simprocAttr, g, hia, u0v, u0t, u0u, low_Z, strip_Z, u0j, u0i, ln_Z, List.length_map, u50, hr, c1', c2', toL_SB, u58, b3, c4']
            rfl
          · have c4' : (rkN v.id ≤ last) = False := eq_false c4
            rw [if_neg c4]
            have hl2 := u6d (v := v) (w := []) (by simp; omega)
            have hl3 : ([] : List UInt8).length = 0 := rfl
            have hh := u8y (v0 := LZ zl 4 (l.map encSE)) (v2 := v2) (v3 := v3) (A := A) (w := []) (last := if last < rkN v.id then rkN v.id else last) (lg := lg) (i := i) hK2 i0 i1 (by omega) (by omega)
            have hh : run (u0a (LZ zl 4 (l.map encSE)) v2 v3 (accB A) (.int .i64 (if last < rkN v.id then rkN v.id else last)) (.bool lg) (.int .i64 i) (.ptr K.length 0) (.slice false true 0 [])) _ = _ := hh
            obtain ⟨E, ih⟩ := u5s hl (zl := zl) (v2 := v2) (v3 := v3) m (i + 1) (if (lg || decide (1048576 < ([]).length + v.d.length ∨ 1048576 < A.length + (([]).length + v.d.length))) = true then A else A ++ part v []) (if last < rkN v.id then rkN v.id else last) (lg || decide (1048576 < ([]).length + v.d.length ∨ 1048576 < A.length + (([]).length + v.d.length))) (hadd K [.cells [.int .i64 v.id, SB v.nm, LZ v.z 1 (bytes v.d), .int .i64 v.pl]]) (by omega) (by split <;> (try rw [List.length_append]) <;> omega)
            rw [ih, u2s] at hh
            refine ⟨[.cells [.int .i64 v.id, SB v.nm, LZ v.z 1 (bytes v.d), .int .i64 v.pl]] ++ E, ?_⟩
            · refine Eq.trans ?_ hh
              simp +contextual -dsimp (disch := omega) only [↓goDown, goUp, cr, simprocAttr, g, hia, u0v, u0t, u0u, low_Z, strip_Z, u0j, u0i, ln_Z, List.length_map, u50, hr, c1', c2', toL_SB, u58, b3, c4', c2n]
        · have b3 : (v.nm == []) = false := by rw [uj6]; exact decide_eq_false c3
          rw [if_neg c3]
          refine ⟨[.cells [.int .i64 v.id, SB v.nm, LZ v.z 1 (bytes v.d), .int .i64 v.pl]], ?_⟩
          simp +contextual -dsimp (disch := omega) only [↓goDown, goUp, cr, simprocAttr, g, hia, u0v, u0t, u0u, low_Z, strip_Z, u0j, u0i, ln_Z, List.length_map, u50, hr, c1', c2', toL_SB, u58, b3]
          rfl
      · have c2' : (0 < rkN v.id) = False := eq_false c2
        have c0 : rkN v.id = 0 := by omega
        have hpn := fun K => ue0 (H := K) (u := v.nm) (by omega)
        have hwl := ube (u := v.nm) (by omega)
        rw [if_pos c0, if_neg c2]
        unfold putP at hpn
        by_cases c5 : (wName v.nm).2 = 0
        · have hl2 := u6d (v := v) (w := (wName v.nm).1) (by omega)
          have hh := u8y (v0 := LZ zl 4 (l.map encSE)) (v2 := v2) (v3 := v3) (A := A) (w := (wName v.nm).1) (last := if last < rkN v.id then rkN v.id else last) (lg := lg) (i := i) hK2 i0 i1 (by omega) (by omega)
          obtain ⟨E, ih⟩ := u5s hl (zl := zl) (v2 := v2) (v3 := v3) m (i + 1) (if (lg || decide (1048576 < ((wName v.nm).1).length + v.d.length ∨ 1048576 < A.length + (((wName v.nm).1).length + v.d.length))) = true then A else A ++ part v (wName v.nm).1) (if last < rkN v.id then rkN v.id else last) (lg || decide (1048576 < ((wName v.nm).1).length + v.d.length ∨ 1048576 < A.length + (((wName v.nm).1).length + v.d.length))) (hadd K [.cells [.int .i64 v.id, SB v.nm, LZ v.z 1 (bytes v.d), .int .i64 v.pl]]) (by omega) (by split <;> (try rw [List.length_append]) <;> omega)
          rw [ih, u2s] at hh
          rw [if_pos c5]
          rw [c5] at hpn
          rw [c0] at hh hr c1' c2' ⊢
          refine ⟨[.cells [.int .i64 v.id, SB v.nm, LZ v.z 1 (bytes v.d), .int .i64 v.pl]] ++ E, ?_⟩
          · refine Eq.trans ?_ hh
            simp +contextual -dsimp (disch := omega) only [↓goDown, goUp, cr, simprocAttr, g, hia, u0v, u0t, u0u, low_Z, strip_Z, u0j, u0i, ln_Z, List.length_map, u50, hr, Int.lt_irrefl, hpn, u2b, show ((0 : Nat) : Int) = 0 from rfl]
        · have c5' : (((wName v.nm).2 : Nat) : Int) = 0 ↔ False := iff_false_intro (by omega)
          rw [if_neg c5]
          rw [c0] at hr
          refine ⟨[.cells [.int .i64 v.id, SB v.nm, LZ v.z 1 (bytes v.d), .int .i64 v.pl]], ?_⟩
          simp +contextual -dsimp (disch := omega) only [↓goDown, goUp, cr, simprocAttr, g, hia, u0v, u0t, u0u, low_Z, strip_Z, u0j, u0i, ln_Z, List.length_map, u50, hr, Int.lt_irrefl, hpn, u2b, c5']
          rfl
end Go.Proofs.YtiamjepnlnjlfaaDoor.Pi.Q
namespace Go.Proofs.YtiamjepnlnjlfaaDoor.Pi.Q
open Go Go.Proofs.YtiamjepnlnjlfaaDoor.Pi
attribute [local congr] ite_congr
variable {H : Heap} {z : Bool}
theorem umh : run (C u2a []) H = some (.ok (accB hd8) H) := by
  rw [u4m]
  have h : ∀ K, run (bs true none [.int .u8 0, .int .u8 97, .int .u8 115, .int .u8 109, .int .u8 1, .int .u8 0, .int .u8 0, .int .u8 0]) K = some (.ok (accB hd8) K) := fun K => rfl
  have h2 : ∀ K, bsR true none [.int .u8 0, .int .u8 97, .int .u8 115, .int .u8 109, .int .u8 1, .int .u8 0, .int .u8 0, .int .u8 0] K = some (.ok (accB hd8) K) := fun K => rfl
  simp +contextual -dsimp (disch := omega) only [↓goDown, goUp, cr, simprocAttr, h, h2, low_B, u2b]
theorem ukh {l : List SE} {zl : Bool} (hl : l.length < 2 ^ 40) (ht : tot l ≤ 2 ^ 45) : run (C u14 [LZ zl 4 (l.map encSE)]) H = some (.ok (jnP (jnR 0 hd8 l)) H) := by
  obtain ⟨E, h⟩ := u5s (zl := zl) (v2 := .slice false true 0 []) (v3 := .int .i64 0) hl l.length 0 hd8 0 false H (by omega) (by rw [List.drop_zero]; simp only [hd8, List.length_cons, List.length_nil]; omega)
  rw [List.drop_zero, ← uhv l 0 hd8 hd8 false (fun _ => rfl) (fun h => by cases h)] at h
  have h : run (u0g (LZ zl 4 (l.map encSE)) (.slice false true 0 []) (.int .i64 0) (accB hd8) (.int .i64 0) (.bool false) (.int .i64 0)) H = _ := h
  have hm := fun K => umh (H := K)
  rw [u4l]
  simp +contextual -dsimp (disch := omega) only [↓goDown, goUp, cr, simprocAttr, hm, h, uhy]
theorem ugo {l : List SE} {zl : Bool} {id : Int} {nm : List UInt8} (hl : l.length < 2 ^ 40) (ht : tot l ≤ 2 ^ 45) (hd : ∀ v ∈ l, v.d.length ≤ 140737488355328) :
    run (C u1k [LZ zl 4 (l.map encSE), .int .i64 id, SB nm]) H = some (.ok (.bool true) H) := by
  have h1 := fun K => uln (H := K) (zl := zl) hl ht
  have h2 := fun K => ukh (H := K) (zl := zl) hl ht
  generalize jnR 0 hd8 l = x at h1 h2
  obtain ⟨x, e⟩ := x
  unfold jnP at h1 h2
  dsimp only at h1 h2
  have h3 := fun K => sameZ (H := K) (z := true) (z' := true) (x := x)
  have h4 := fun K => uk2 (H := K) (n := id)
  have h5 := fun K => uep (H := K) (n := id)
  have h6 := fun K => ult (H := K) (zl := zl) (id := id) hd (by omega)
  have h7 := fun K => uli (H := K) (zl := zl) (l := l) (id := id) (by omega)
  have h8 := fun K => uh3 (H := K) (zl := zl) (nm := nm) hd hl
  have h9 := fun K => udn (H := K) (zl := zl) (nm := nm) hl
  have hc := uh9 (nm := nm) (l := l)
  have h10 := fun K za zb => ule (H := K) (l := cusSE nm l) (za := za) (zb := zb) (by omega)
  have st : ∀ L, strip (accP 4 L) = LZ true 4 L := fun L => by cases L <;> rfl
  rw [u39]
  cases hf : fndSE id l with
  | none =>
    rw [hf] at h6 h7
    unfold fndP zSE at h6 h7
    have h11 := fun K => sameZ (H := K) (z := true) (z' := true) (x := [])
    have h11 : ∀ K, run (C u0p [.slice false true 0 [], .slice false true 0 []]) K = _ := h11
    simp +contextual -dsimp (disch := omega) only [↓goDown, goUp, cr, simprocAttr, h1, h2, h3, h4, h5, h6, h7, h8, h9, h10, h11, un_not, st, u71, u29, u0v, u0t, u0u, low_Z, strip_Z, u0j, u0i, u58, beq_self_eq_true, ue3, uaq]
  | some v =>
    rw [hf] at h6 h7
    have h6 : ∀ K, run (C u2p [LZ zl 4 (l.map encSE), .int .i64 id]) K = some (.ok (.tup [.agg [.int .i64 v.id, SB v.nm, LZ true 1 (bytes v.d), .int .i64 v.pl], .bool true]) K) := h6
    have h7 : ∀ K, run (C u1c [LZ zl 4 (l.map encSE), .int .i64 id]) K = some (.ok (.tup [.agg [.int .i64 v.id, SB v.nm, LZ v.z 1 (bytes v.d), .int .i64 v.pl], .bool true]) K) := h7
    have h11 := fun K => sameZ (H := K) (z := true) (z' := v.z) (x := v.d)
    simp +contextual -dsimp (disch := omega) only [↓goDown, goUp, cr, simprocAttr, h1, h2, h3, h4, h5, h6, h7, h8, h9, h10, h11, un_not, st, u71, u29, u0v, u0t, u0u, low_Z, strip_Z, u0j, u0i, toL_SB, beq_self_eq_true, ue3, uaq]
end Go.Proofs.YtiamjepnlnjlfaaDoor.Pi.Q
namespace Go.Proofs.YtiamjepnlnjlfaaDoor.Pi.Q
open Go Go.Proofs.YtiamjepnlnjlfaaDoor.Pi
theorem uea {α : Type} {m : α → Nat} : ∀ (l : List α), (∀ a ∈ l, 1 ≤ m a) → l.length ≤ sumL m l
  | [], h => Nat.zero_le _
  | a :: r, h => by
    have := uea r (fun x hx => h x (by simp [hx]))
    have := h a (by simp)
    simp only [sumL, List.length_cons]
    omega
theorem uib : ∀ {l : List SC}, (∀ a ∈ l, ok_SC a) → tot (l.map SC.se) ≤ 40 * sumL ms_SC l
  | [], h => Nat.zero_le _
  | v :: r, h => by
    have ih := uib (l := r) (fun a ha => h a (by simp [ha]))
    rw [List.map_cons, u6m]
    have s1 : v.data.l.length ≤ sumL (fun _ : Int => 1) v.data.l := uea v.data.l (fun _ _ => Nat.le_refl _)
    have e1 : v.se.d.length = v.data.l.length := List.length_map _
    have e2 : v.se.nm.length = v.name.size := rfl
    have e3 : sumL ms_SC (v :: r) = ms_SC v + sumL ms_SC r := rfl
    have e4 : ms_SC v = 1 + (v.name.size + 1 + (sumL (fun _ : Int => 1) v.data.l + 1 + (1 + 0))) + 1 := rfl
    rw [e3, e1, e2]
    omega
theorem joins_of {x : GL SC} {id : Int} {nm : List UInt8} {H : Heap} (h : ∀ a ∈ x.l, ok_SC a) (hm : sumL (fun a => ms_SC a) x.l ≤ 1048576) :
    run (C u1k [LZ x.z 4 (x.l.map encSC), .int .i64 id, SB nm]) H = some (.ok (.bool true) H) := by
  have hm : sumL ms_SC x.l ≤ 1048576 := hm
  have e : x.l.map encSC = (x.l.map SC.se).map encSE := by
    rw [List.map_map]
    exact List.map_congr_left fun a ha => ukt (h a ha)
  have ht := uib h
  have hl : x.l.length ≤ sumL ms_SC x.l := uea x.l (fun a _ => by unfold ms_SC; omega)
  rw [e]
  refine ugo (by rw [List.length_map]; omega) (by omega) fun v hv => ?_
  have : ∀ {l : List SE} {v : SE}, v ∈ l → v.d.length ≤ tot l := fun {l} => by
    induction l with
    | nil => intro v hv; cases hv
    | cons a r ih =>
      intro v hv
      rw [u6m]
      rcases List.mem_cons.1 hv with rfl | hv
      · omega
      · have := ih hv; omega
  have := this hv
  omega
end Go.Proofs.YtiamjepnlnjlfaaDoor.Pi.Q
