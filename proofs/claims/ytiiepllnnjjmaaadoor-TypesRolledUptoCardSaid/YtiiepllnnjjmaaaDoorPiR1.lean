/- What the law rests on, part 2 of 4: a reading of the program's code over told data, and what it comes to. -/
import Derived.Test.YtiiepllnnjjmaaaDoorPiR0
set_option linter.unusedVariables false
set_option linter.unusedSimpArgs false
set_option maxRecDepth 100000
namespace Go.Proofs.YtiiepllnnjjmaaaDoor.Pi
variable {P : Program} {g : G} {L L' : Owner} {w w' : World} {H : Heap} {x : Nat} {env : Env}
theorem u6m (z : Array Value) (n : Nat) : (Builtin.zeroCells z n).size = n * z.size := size_zeroCells z n
theorem u7j {b n : Nat} (h : growB b n = true) : n * b ≤ 140737488355328 ∧ n ≤ 140737488355328 := by
  have h1 : n * max b 1 ≤ 140737488355328 := by simpa [growB] using h
  exact ⟨Nat.le_trans (Nat.mul_le_mul_left _ (Nat.le_max_left b 1)) h1, Nat.le_trans (by have := Nat.mul_le_mul_left n (Nat.le_max_right b 1); omega) h1⟩
theorem unv {A : Operand} {z : Bool} {sz : Nat} {xs : List PV} (h : ev env A = .slice true z sz xs) : ∃ s, A = .tmp s := by
  cases A with
  | tmp s => exact ⟨s, rfl⟩
  | const v =>
    simp only [ev] at h
    unfold ofV at h
    split at h
    · split at h <;> cases h
    · rename_i a b
      cases hab : (a.size == 0 && b.size == 0) <;> rw [hab] at h <;> simp at h
    · unfold ofVC at h
      split at h <;> simp at h
  | global v => rcases ug9 v with e | ⟨cs, e⟩ <;> simp [ev, e] at h
  | func v => simp [ev] at h
theorem TOk.stripTmp {tm : Array Value} {g' : G} {s : Nat} (h : TOk x g env tm) (hg : Grow (fun M => M ≠ .tmp s) g g') : TOk x g' (env.set s (strip (env.getD s .undef))) tm := by
  have h3 := h.giveUp (some (s, none))
  have e : Pi.giveUp env (some (s, none)) = env.set s (strip (env.getD s .undef)) := rfl
  rw [e] at h3
  refine ⟨h3.one, h3.len, fun t v p hv hp => ?_, h3.slot⟩
  have hr := h3.val t v p hv hp
  by_cases et : t = s
  · subst et
    have hp2 : ∃ q, p = strip q := by
      have hlt : t < env.length := by
        have := (List.getElem?_eq_some_iff.mp hp).1
        simpa using this
      rw [List.getElem?_set_self hlt] at hp
      simp only [Option.some.injEq] at hp
      exact ⟨_, hp.symm⟩
    obtain ⟨q, hq⟩ := hp2
    cases hr with
    | one hr =>
      cases hr with
      | undef => exact .one (.undef _)
      | pure hr => exact .one (.pure (hr.mono hg.ι hg.im))
      | own => cases q <;> simp [strip] at hq
    | tup h1 r => exact .tup h1 fun j p v a b => (r j p v a b).mono hg (L := .sub (.tmp t) j) (by intro e; cases e)
    | aggo h1 hc r => exact .aggo h1 hc fun j p v a b => (r j p v a b).mono hg (L := .sub (.tmp t) j) (by intro e; cases e)
  · exact hr.mono hg (by intro e; injection e with e; exact et e) (fun j => by intro e; cases e)
theorem ap_ok {t u ty e : TypeId} {a : Act} {A B : Operand} {out : Out PV} {own : Bool} (d : Option Tmp) (hd : ∀ t, d = some t → own = true) (ht : P.underlying t = some (.slice e)) (hu : u95 P u) (hl : listOk P e = true)
    (h : ap own (tsize P e) (tbytes P e) (ev env A) (ev env B) H = some out) (hi : Inv g H w) (hT : TOk x g env a.tmps) :
    ValOk P x g w (giveUp env (srcO A)) a.tmps d (Builtin.append_ #[t, u] ty #[a.eval A, a.eval B]) out := by
  obtain ⟨hk, hpos, hag, i, z, hinf, hz, hzs, his, hib⟩ := u6o hl
  have rA := ev_rep hi hT A
  have rB := ev_rep hi hT B
  have hT' : TOk x g (giveUp env (srcO A)) a.tmps := hT.giveUp _
  unfold ap at h
  cases hA : ev env A with
  | slice o zn sx xs =>
    rw [hA] at h rA
    dsimp only at h
    cases htl : tail (tsize P e) (ev env B) with
    | none => rw [htl] at h; simp [M.fail] at h
    | some ys =>
      rw [htl] at h
      dsimp only at h
      obtain ⟨news, hsrc, hys, hyr⟩ := src_of hpos htl hi rB
      have hsrc' : Src P w i.size (a.eval B) ys.length news := by rw [his]; exact hsrc
      rcases rA.slice with ⟨rfl, rfl, rfl, hv⟩ | ⟨rfl, b, off, cap, sp, vs, hv, hsp, hc, hsz, him, hr, how⟩
      · rw [hv]
        simp only [cond_true] at h
        cases hye : ys.isEmpty with
        | true =>
          have hy0 : ys = [] := by simpa using hye
          subst hy0
          rw [hye] at h
          simp only [cond_true, M.pure, Option.some.injEq] at h
          subst h
          have hn0 : news = [] := List.eq_nil_of_length_eq_zero (by simpa using hsrc.size)
          subst hn0
          exact ⟨.slice none 0 0, w, g, ufd ht hu hinf hsrc', Glob.refl _ _, hi, hT', fun _ _ => rF (.snil _) _⟩
        | false =>
          rw [hye] at h
          simp only [cond_false] at h
          have hy0 : ys ≠ [] := by simpa using hye
          have hlen : 0 < ys.length := List.length_pos_iff.mpr hy0
          cases hgb : growB (tbytes P e) ys.length with
          | false => rw [hgb] at h; simp [M.fail] at h
          | true =>
            rw [hgb] at h
            simp only [cond_true, M.pure, Option.some.injEq] at h
            subst h
            have hb := u7j hgb
            have hrun := uij (P := P) (w := w) (ty := ty) ht hu hinf hz hsrc' hlen (by have := hb.2; omega) (by rw [hib]; have := hb.1; omega)
            have hcap := grownCap_ge w ys.length 0 e
            have hcs : (news.toArray ++ Builtin.zeroCells z.cells (grownCap w ys.length 0 e - ys.length)).size = grownCap w ys.length 0 e * tsize P e := by
              rw [Array.size_append, u6m, hzs, List.size_toArray, hsrc.size, ← Nat.add_mul]
              congr 1
              omega
            obtain ⟨r1, r2, r3, r4, r5⟩ := u8b (xs := ys) (sz := tsize P e) (cap := grownCap w ys.length 0 e) (.tmp (d.getD 0)) hi (Pushed.drew w (.cells (news.toArray ++ Builtin.zeroCells z.cells (grownCap w ys.length 0 e - ys.length)) e)) hys hcap (by rw [hcs]; exact Nat.le_refl _) (fun i y j c hy hj => by
              obtain ⟨q, hq, hrq⟩ := hyr i y j c hy hj
              have : i * tsize P e + j < news.length := (List.getElem?_eq_some_iff.mp hq).1
              exact ⟨q, by rw [Array.getElem?_append_left (by simpa using this)]; simpa using hq, hrq⟩)
            refine ⟨_, _, _, hrun, r2, r1, hT'.mono r3 (fun _ _ => trivial), fun t' ht' => ?_⟩
            subst ht'
            rw [hd t' rfl]
            exact .one r4
      · rw [hv]
        simp only [cond_false] at h
        cases hcc : (o && (sx == tsize P e && growB (tbytes P e) (xs.length + ys.length))) with
        | false => rw [hcc] at h; simp [M.fail] at h
        | true =>
          rw [hcc] at h
          simp only [cond_true, M.pure, Option.some.injEq] at h
          subst h
          simp only [Bool.and_eq_true, beq_iff_eq] at hcc
          obtain ⟨rfl, rfl, hgb⟩ := hcc
          obtain ⟨hb1, hb2⟩ := u7j hgb
          obtain ⟨s, rfl⟩ := unv hA
          obtain ⟨hspn, S, how2, hs, hroom⟩ := how rfl
          subst hspn
          obtain ⟨cur, T, hbk, hcur⟩ := hi.ow b _ S how2
          by_cases hfit : xs.length + ys.length ≤ cap
          · have hfit2 : off + xs.length * tsize P e + news.length ≤ cur.size := by
              have : (xs.length + ys.length) * tsize P e ≤ cap * tsize P e := Nat.mul_le_mul_right _ hfit
              rw [Nat.add_mul] at this
              have := hsrc.size
              omega
            have hrun := ug3 (P := P) (w := w) (ty := ty) (t := t) (u := u) (e := e) (i := i) (v := a.eval B) (n := ys.length) (news := news) ht hu hinf hsrc' (b := b) (off := off) (sLen := xs.length) (sCap := cap) hbk hfit (by rw [his]; exact hfit2)
            rw [his] at hrun
            obtain ⟨r1, r2, r3, r4⟩ := ump (d := d.getD 0) hi hc hsz him hr how2 hs hroom hys hsrc.size hyr hfit hbk hcur
            refine ⟨_, _, _, hrun, r2, r1, hT.stripTmp r3, fun t' ht' => ?_⟩
            subst ht'
            rw [hd t' rfl]
            exact .one r4
          · obtain ⟨olds, hos, _, hor⟩ := src_of (w := w) (q := .slice false false (tsize P e) xs) (v := .slice (some ⟨b, off, none⟩) xs.length cap) (L := .res) hpos (ys := xs) (by simp [tail]) hi (rF (.slice vs (.inl rfl) hc hsz him hr) _)
            have hneed : cap < xs.length + ys.length := by omega
            have hrun := ufj (P := P) (w := w) (ty := ty) (t := t) (u := u) (e := e) (i := i) (z := z) (v := a.eval B) (n := ys.length) (news := news) ht hu hinf hz hsrc' (b := b) (off := off) (sLen := xs.length) (sCap := cap) (olds := olds) (by rw [his]; exact hos) hneed (by omega) (growslice_fits hneed (by rw [hib]; exact hb1))
            have hcap := grownCap_ge w (xs.length + ys.length) cap e
            have hcs : (olds.toArray ++ news.toArray ++ Builtin.zeroCells z.cells (grownCap w (xs.length + ys.length) cap e - (xs.length + ys.length))).size = grownCap w (xs.length + ys.length) cap e * tsize P e := by
              rw [Array.size_append, Array.size_append, u6m, hzs, List.size_toArray, List.size_toArray, hsrc.size, hos.size, ← Nat.add_mul, ← Nat.add_mul]
              congr 1
              omega
            have hl2 : (xs ++ ys).length = xs.length + ys.length := List.length_append
            obtain ⟨r1, r2, r3, r4, r5⟩ := u8b (xs := xs ++ ys) (sz := tsize P e) (cap := grownCap w (xs.length + ys.length) cap e) (.tmp (d.getD 0)) hi (Pushed.drew w (.cells (olds.toArray ++ news.toArray ++ Builtin.zeroCells z.cells (grownCap w (xs.length + ys.length) cap e - (xs.length + ys.length))) e)) (fun i y hy => by
                by_cases h : i < xs.length
                · rw [List.getElem?_append_left h] at hy
                  exact hsz i y hy
                · rw [List.getElem?_append_right (by omega)] at hy
                  exact hys _ y hy) (by rw [hl2]; exact hcap) (by rw [hcs]; exact Nat.le_refl _) (fun i y j c hy hj => by
                by_cases h : i < xs.length
                · rw [List.getElem?_append_left h] at hy
                  obtain ⟨q, hq, hrq⟩ := hor i y j c hy hj
                  have hlt : i * tsize P e + j < olds.length := (List.getElem?_eq_some_iff.mp hq).1
                  exact ⟨q, by rw [Array.append_assoc, Array.getElem?_append_left (by simpa using hlt)]; simpa using hq, hrq⟩
                · rw [List.getElem?_append_right (by omega)] at hy
                  obtain ⟨q, hq, hrq⟩ := hyr _ y j c hy hj
                  have hlt : (i - xs.length) * tsize P e + j < news.length := (List.getElem?_eq_some_iff.mp hq).1
                  have ho := hos.size
                  have e1 : i * tsize P e + j = olds.length + ((i - xs.length) * tsize P e + j) := by
                    have : i * tsize P e = xs.length * tsize P e + (i - xs.length) * tsize P e := by rw [← Nat.add_mul]; congr 1; omega
                    omega
                  refine ⟨q, ?_, hrq⟩
                  rw [e1, Array.getElem?_append_left (by simp; omega), Array.getElem?_append_right (by simp)]
                  simpa using hq)
            refine ⟨.slice (some ⟨w.heap.size, 0, none⟩) (xs ++ ys).length (grownCap w (xs.length + ys.length) cap e), _, _, (by rw [hl2]; exact hrun), r2, r1, hT'.mono r3 (fun _ _ => trivial), fun t' ht' => ?_⟩
            subst ht'
            rw [hd t' rfl]
            exact .one r4
  | _ => (rw [hA] at h; exact nomatch h)
end Go.Proofs.YtiiepllnnjjmaaaDoor.Pi
namespace Go.Proofs.YtiiepllnnjjmaaaDoor.Pi
variable {P : Program} {g : G} {L L' : Owner} {w w' : World} {H : Heap} {x : Nat} {env : Env}
theorem ubg (off : Nat) (vs cs : Array Value) (h : off + vs.size ≤ cs.size) :
    (vs.zipIdx.foldl (fun cs (c, j) => cs.setIfInBounds (off + j) c) cs) = (cs.toList.take off ++ vs.toList ++ cs.toList.drop (off + vs.toList.length)).toArray := by
  obtain ⟨g1, g2⟩ := Great.foldl_set off vs.toList 0 cs
  have e : (vs.zipIdx.foldl (fun cs (c, j) => cs.setIfInBounds (off + j) c) cs) = ((vs.toList.zipIdx 0).foldl (fun cs (y : Value × Nat) => cs.setIfInBounds (off + y.2) y.1) cs) := by
    rw [← Array.foldl_toList, Array.toList_zipIdx]
  rw [e]
  apply Array.ext_getElem?
  intro k
  rw [g2 k, u5i (by simpa using h)]
  simp only [Nat.add_zero]
  by_cases hk : off ≤ k ∧ k < off + vs.toList.length
  · rw [if_pos hk, if_pos ⟨hk.1, hk.2, by simp at hk; omega⟩]
  · rw [if_neg hk, if_neg (by omega)]
theorem ufb {place : Nat → Option (Nat × Nat)} (hi : Inv g H w) : ∀ (ps : List (Nat × Operand)) (cs : List PV) (vs : Array Value) (cs' : List PV) {a : Act}, TOk x g env a.tmps →
    u39 (ps.map fun (i, y) => match place i with | some (a, b) => (a, b, ev env y) | none => (0, 0, .tup [])) cs = some cs' → vs.size = cs.length → (∀ (j : Nat) (c : PV), cs[j]? = some c → isCell c = true) →
    (∀ (j : Nat) (c : PV) (u : Value), cs[j]? = some c → vs[j]? = some u → Rep g.ι g.im c u) →
    ∃ vs', Instr.fill place vs (ps.map fun (i, y) => (i, a.eval y)) = some vs' ∧ vs'.size = cs'.length ∧ (∀ (j : Nat) (c : PV), cs'[j]? = some c → isCell c = true) ∧ ∀ (j : Nat) (c : PV) (u : Value), cs'[j]? = some c → vs'[j]? = some u → Rep g.ι g.im c u
  | [], cs, vs, cs', a, hT, h, h1, h2, h3 => by
    simp only [List.map_nil, u39, Option.some.injEq] at h
    subst h
    exact ⟨vs, rfl, h1, h2, h3⟩
  | (i, y) :: r, cs, vs, cs', a, hT, h, h1, h2, h3 => by
    simp only [List.map_cons] at h ⊢
    cases hp : place i with
    | none =>
      rw [hp] at h
      simp [u39, PV.cells, isCell] at h
    | some q =>
      obtain ⟨off, size⟩ := q
      rw [hp] at h
      simp only [u39] at h
      cases hc : ((ev env y).cells.length == size && (decide (off + size ≤ cs.length) && (ev env y).cells.all isCell)) with
      | false => rw [hc] at h; simp at h
      | true =>
        rw [hc] at h
        simp only [cond_true] at h
        simp only [Bool.and_eq_true, beq_iff_eq, decide_eq_true_eq] at hc
        obtain ⟨e1, e2, e3⟩ := hc
        obtain ⟨c1, c2⟩ := u59 (ev_rep hi hT y) e3
        have hm := u4r (vs := (a.eval y).cells) c2 e3
        have hfit : off + ((ev env y).cells.map stripC).length ≤ cs.length := by simp; omega
        have hfv : off + (a.eval y).cells.toList.length ≤ vs.size := by simp; omega
        obtain ⟨vs', f1, f2, f3, f4⟩ := ufb hi r (fillAt off ((ev env y).cells.map stripC) cs) ((vs.toList.take off ++ (a.eval y).cells.toList ++ vs.toList.drop (off + (a.eval y).cells.toList.length)).toArray) cs' hT h
          (by rw [u53 hfit]; simp; omega) (fun j c hj => by
            rw [u4h hfit] at hj
            split at hj
            · simp only [List.getElem?_map, Option.map_eq_some_iff] at hj
              obtain ⟨q, hq, rfl⟩ := hj
              rw [u3a]
              exact u4v e3 hq
            · exact h2 j c hj) (fun j c u hj hu => by
            rw [u4h hfit] at hj
            rw [u5i hfv] at hu
            have hl : ((ev env y).cells.map stripC).length = (a.eval y).cells.toList.length := by simp; omega
            rw [hl] at hj
            split at hj
            · rename_i hk
              rw [if_pos hk] at hu
              exact (hm _ c u hj (by simpa using hu)).1
            · rename_i hk
              rw [if_neg hk] at hu
              exact h3 j c u hj hu)
        refine ⟨vs', ?_, f2, f3, f4⟩
        unfold Instr.fill
        simp only [hp]
        rw [if_neg (by simp; omega)]
        rw [ubg off (a.eval y).cells vs (by omega)]
        exact f1
theorem uhp {v : Value} {p : PV} (n : Nat) (hp : ofVC v = some p) : p.low n = true ∧ stripC p = p := by
  unfold ofVC at hp
  split at hp <;> simp only [Option.some.injEq, reduceCtorEq] at hp <;> subst hp <;> exact ⟨by simp [PV.low], rfl⟩
theorem ugg (n : Nat) : ∀ {vs : List Value} {ps : List PV}, ofVs vs = some ps → ∀ (j : Nat) (c : PV), ps[j]? = some c → c.low n = true ∧ stripC c = c
  | [], ps, h, j, c, hc => by simp [ofVs] at h; subst h; simp at hc
  | v :: r, ps, h, j, c, hc => by
    simp only [ofVs] at h
    split at h
    · rename_i a b ha hb
      simp only [Option.some.injEq] at h
      subst h
      cases j with
      | zero => simp at hc; subst hc; exact uhp n ha
      | succ j => exact ugg n hb j c (by simpa using hc)
    · simp at h
theorem u8f {p c : PV} {j : Nat} (h : [p][j]? = some c) : j = 0 ∧ c = p := by
  have : j = 0 := by have := (List.getElem?_eq_some_iff.mp h).1; simp at this; omega
  subst this
  simp at h
  exact ⟨rfl, h.symm⟩
theorem u7e {z : Value} (hv : isVal (ofV z) = true) (n : Nat) : (ofV z).cells.all isCell = true ∧ z.cells.size = (ofV z).cells.length ∧ (∀ (j : Nat) (c : PV), (ofV z).cells[j]? = some c → c.low n = true ∧ stripC c = c) ∧
    ∀ (j : Nat) (c : PV) (v : Value), (ofV z).cells[j]? = some c → z.cells[j]? = some v → Rep g.ι g.im c v := by
  have key : (ofV z).cells.all isCell = true ∧ ∀ (j : Nat) (c : PV), (ofV z).cells[j]? = some c → c.low n = true ∧ stripC c = c := by
    unfold ofV at hv ⊢
    split at hv
    · split at hv
      · rename_i l hl
        (try simp only [hl])
        refine ⟨List.all_eq_true.mpr fun c hc => ?_, ugg n hl⟩
        obtain ⟨j, hj, rfl⟩ := List.getElem_of_mem hc
        exact (ucg (g := g) hl).2.1 j _ (List.getElem?_eq_getElem hj)
      · simp [isVal] at hv
    · rename_i f aa bb
      cases hab : (aa.size == 0 && bb.size == 0) <;> rw [hab] at hv <;> simp [isVal] at hv
      simp only [cond_true]
      refine ⟨rfl, fun j c hj => ?_⟩
      obtain ⟨_, rfl⟩ := u8f hj
      exact ⟨by simp [PV.low, lowL], rfl⟩
    · rename_i n1 n2
      cases hov : ofVC z with
      | none => rw [hov] at hv; simp [isVal] at hv
      | some p =>
        have hcell := uaa hov
        simp only [Option.getD_some]
        have e : p.cells = [p] := by cases p <;> first | rfl | simp [isCell] at hcell
        rw [e]
        refine ⟨by simpa using hcell, fun j c hj => ?_⟩
        obtain ⟨_, rfl⟩ := u8f hj
        exact uhp n hov
  obtain ⟨c1, c2⟩ := u59 (u8v (g := g) z .res) key.1
  refine ⟨key.1, c1, key.2, fun j c v hj hv => ?_⟩
  have hcj := u4v key.1 hj
  have := (c2 j c v hj hv).toRep (by cases c <;> first | rfl | simp [isCell] at hcj)
  rwa [(key.2 j c hj).2] at this
theorem u5w {t : TypeId} (hz : isVal (tzero P t) = true) : ∃ i z, P.info? t = some i ∧ i.zero = some z ∧ tzero P t = ofV z := by
  unfold tzero at hz ⊢
  cases hzz : (P.info? t).bind (·.zero) with
  | none => rw [hzz] at hz; simp [isVal] at hz
  | some z =>
    obtain ⟨i, hi, hiz⟩ := Option.bind_eq_some_iff.mp hzz
    exact ⟨i, z, hi, hiz, by simp⟩
theorem u6t : ∀ (fs : List Field), (∀ f ∈ fs, known P f.type = true) → (fs.mapM (fun f => do pure (f.offset, ← sizeOf f.type) : Field → Sem (Nat × Nat))).run P w = .ok (fs.map fun f => (f.offset, tsize P f.type)) w
  | [], _ => by simp
  | f :: r, h => by
    obtain ⟨d, hd⟩ := u3u (h f List.mem_cons_self)
    obtain ⟨i, hi⟩ := u0r hd
    simp only [List.mapM_cons, Sem.run_bind, u0w (w := w) hi, Result.andThen_ok, Sem.run_pure, u6t r (fun q hq => h q (List.mem_cons_of_mem _ hq)), List.map_cons]
theorem ue6 {t : TypeId} {fs : Array Field} {ps : Array (Nat × Operand)} {a : Act} {out : Out PV} (hu : P.underlying t = some (.struct fs)) (hfk : fs.toList.all (fun f => known P f.type) = true) (hz : isVal (tzero P t) = true)
    (h : bd (tzero P t).cells (parts P env (fun i => (fs[i]?).map fun f => (f.offset, tsize P f.type)) ps) H = some out) (hT : TOk x g env a.tmps) (hinv : Inv g H w) : PureRes P g w H (Instr.build t (ps.map fun (i, y) => (i, a.eval y))) out := by
  unfold bd parts at h
  generalize hf : u39 _ _ = F at h
  cases F with
  | some cs' =>
    dsimp only at h
    obtain ⟨i, z, hi, hiz, hzz⟩ := u5w hz
    rw [hzz] at hz hf
    obtain ⟨z1, z2, z3, z4⟩ := u7e (g := g) hz 0
    obtain ⟨vs', f1, f2, f3, f4⟩ := ufb (x := x) (a := a) (hi := hinv) (place := fun i => (fs[i]?).map fun f => (f.offset, tsize P f.type)) ps.toList (ofV z).cells z.cells cs' hT hf z2 (fun j c hj => u4v z1 hj) z4
    refine u0d h (cv := .agg vs') ?_ (fun L => rT (.agg f2 f3 f4) L)
    have hm := u6t (P := P) (w := w) fs.toList (fun f hf => List.all_eq_true.mp hfk f hf)
    have hm2 : (fs.mapM (fun f => do pure (f.offset, ← sizeOf f.type) : Field → Sem (Nat × Nat))).run P w = .ok (fs.map fun f => (f.offset, tsize P f.type)) w := by
      rw [Array.mapM_eq_mapM_toList]
      rw [Sem.run_map, hm]
      simp only [Result.andThen_ok, Result.ok.injEq, and_true]
      apply Array.ext'
      simp
    have hpl : (fun (i : Nat) => (fs.map fun (f : Field) => (f.offset, tsize P f.type))[i]?) = (fun i => (fs[i]?).map fun f => (f.offset, tsize P f.type)) := by
      funext i
      simp
    simp only [Instr.build, Sem.run_bind, zeroValue, typeInfo, run_program, Result.andThen_ok, hi, Sem.run_pure, hiz, run_underlying hu, hm2]
    have hps : (ps.map fun (i, y) => (i, a.eval y)).toList = ps.toList.map fun (i, y) => (i, a.eval y) := by simp
    rw [hpl, hps, f1]
    rfl
  | none => simp [M.fail] at h
def mvTB (s d o : Nat) : Owner → Owner
  | .tmp t => if t = s then .sub (.tmp d) o else .tmp t
  | M => M
theorem TOk.moveInto {tm : Array Value} (h : TOk x g env tm) (s d o : Nat) : TOk x (g.ren (mvTB s d o)) (env.set s (strip (env.getD s .undef))) tm := by
  have hl := h.len
  refine ⟨h.one, by simp [h.len], fun t u q hu hq => ?_, fun t q ht hq => ?_⟩
  · by_cases e : s = t
    · subst e
      have h2 : s < env.length := by
        have := (List.getElem?_eq_some_iff.mp hq).1
        simpa using this
      rw [List.getElem?_set_self h2] at hq
      simp only [Option.some.injEq] at hq
      subst hq
      have : env.getD s .undef = env[s] := by simp [List.getD, List.getElem?_eq_getElem h2]
      rw [this]
      exact (h.val s u _ hu (List.getElem?_eq_getElem h2)).stripRen _ _
    · rw [List.getElem?_set_ne e] at hq
      refine (h.val t u q hu hq).ren ?_ (fun j => rfl)
      show (if t = s then _ else _) = _
      rw [if_neg (fun h => e h.symm)]
  · have h3 := h.giveUp (some (s, none))
    exact h3.slot t q ht hq
theorem uih {t : TypeId} {fs : Array Field} {ps : Array (Nat × Operand)} {i s : Nat} {f : Field} {a : Act} {out : Out PV} {d : Option Tmp} (hps : ps.toList = [(i, .tmp s)]) (hf : fs[i]? = some f) (hu : P.underlying t = some (.struct fs)) (hfk : fs.toList.all (fun f => known P f.type) = true) (hz : isVal (tzero P t) = true)
    (h : bdO (tzero P t).cells f.offset (tsize P f.type) (env.getD s .undef) H = some out) (hi : Inv g H w) (hT : TOk x g env a.tmps) : ValOk P x g w (giveUp env (some (s, none))) a.tmps d (Instr.build t (ps.map fun (i, y) => (i, a.eval y))) out := by
  have rX : RepT g (.tmp s) (env.getD s .undef) (a.eval (.tmp s)) := ev_rep hi hT (.tmp s)
  have plain : bd (tzero P t).cells (parts P env (fun i => (fs[i]?).map fun f => (f.offset, tsize P f.type)) ps) H = some out → ValOk P x g w (giveUp env (some (s, none))) a.tmps d (Instr.build t (ps.map fun (i, y) => (i, a.eval y))) out := fun h =>
    (ue6 hu hfk hz h hT hi).valOk hi (hT.giveUp _) d
  have hparts : parts P env (fun i => (fs[i]?).map fun f => (f.offset, tsize P f.type)) ps = [(f.offset, tsize P f.type, env.getD s .undef)] := by
    unfold parts
    rw [hps]
    simp only [List.map_cons, List.map_nil, hf, Option.map_some]
    rfl
  rw [hparts] at plain
  generalize hp : env.getD s .undef = p at h rX plain
  unfold bdO at h
  split at h
  · rename_i z sz xs
    obtain ⟨iz, zz, hti, hiz, hzz⟩ := u5w hz
    rw [hzz] at hz h
    obtain ⟨z1, z2, z3, z4⟩ := u7e (g := g) hz 0
    cases hc : (decide (f.offset + 1 ≤ (ofV zz).cells.length) && tsize P f.type == 1) with
    | false => rw [hc] at h; simp [M.fail] at h
    | true =>
      rw [hc] at h
      simp only [cond_true, M.pure, Option.some.injEq] at h
      subst h
      simp only [Bool.and_eq_true, decide_eq_true_eq, beq_iff_eq] at hc
      obtain ⟨hfit, hone⟩ := hc
      have hsv : RepS g (.tmp s) (.slice true z sz xs) (a.eval (.tmp s)) := by cases rX with | one h => exact h
      have hcell := u5q hsv rfl
      have hev : (a.eval (.tmp s)).cells = #[a.eval (.tmp s)] := by
        generalize a.eval (.tmp s) = v at hcell
        cases v <;> first | rfl | simp [Value.oneCell'] at hcell
      let vs' : Array Value := (zz.cells.toList.take f.offset ++ (a.eval (.tmp s)).cells.toList ++ zz.cells.toList.drop (f.offset + (a.eval (.tmp s)).cells.toList.length)).toArray
      have hfl : ([.slice true z sz xs] : List PV).length = 1 := rfl
      have hvl : (a.eval (.tmp s)).cells.toList.length = 1 := by rw [hev]; rfl
      have hrun : (Instr.build t (ps.map fun (i, y) => (i, a.eval y))).run P w = .ok (.agg vs') w := by
        have hm := u6t (P := P) (w := w) fs.toList (fun f hf => List.all_eq_true.mp hfk f hf)
        have hm2 : (fs.mapM (fun f => do pure (f.offset, ← sizeOf f.type) : Field → Sem (Nat × Nat))).run P w = .ok (fs.map fun f => (f.offset, tsize P f.type)) w := by
          rw [Array.mapM_eq_mapM_toList]
          rw [Sem.run_map, hm]
          simp only [Result.andThen_ok, Result.ok.injEq, and_true]
          apply Array.ext'
          simp
        have hpl : (fun (i : Nat) => (fs.map fun (f : Field) => (f.offset, tsize P f.type))[i]?) = (fun i => (fs[i]?).map fun f => (f.offset, tsize P f.type)) := by
          funext i
          simp
        simp only [Instr.build, Sem.run_bind, zeroValue, typeInfo, run_program, Result.andThen_ok, hti, Sem.run_pure, hiz, run_underlying hu, hm2]
        have hps2 : (ps.map fun (i, y) => (i, a.eval y)).toList = ps.toList.map fun (i, y) => (i, a.eval y) := by simp
        rw [hpl, hps2, hps]
        simp only [List.map_cons, List.map_nil]
        unfold Instr.fill
        simp only [hf, Option.map_some]
        rw [if_neg (by rw [hev, hone]; simp; omega)]
        rw [ubg f.offset (a.eval (.tmp s)).cells zz.cells (by rw [hev]; simp; omega)]
        rfl
      cases d with
      | none => exact ⟨_, w, g, hrun, Glob.refl _ _, hi, hT.giveUp _, fun t ht => nomatch ht⟩
      | some d =>
        refine ⟨_, w, g.ren (mvTB s d f.offset), hrun, u36 (fun M => rfl), hi.ren (fun _ _ => rfl), hT.moveInto s d f.offset, fun t' ht' => ?_⟩
        simp only [Option.some.injEq] at ht'
        subst ht'
        have hfit' : f.offset + ([.slice true z sz xs] : List PV).length ≤ (ofV zz).cells.length := by rw [hfl]; exact hfit
        refine .aggo ?_ (fun j c hj => ?_) (fun j c v hj hv => ?_)
        · rw [u53 hfit']
          show vs'.size = _
          simp only [vs', List.size_toArray, List.length_append, List.length_take, List.length_drop, Array.length_toList, hvl]
          have : (a.eval (.tmp s)).cells.size = 1 := by rw [hev]; rfl
          omega
        · rw [u4h hfit'] at hj
          split at hj
          · obtain ⟨_, rfl⟩ := u8f hj
            rfl
          · exact u4v z1 hj
        · rw [u4h hfit'] at hj
          rw [u5i (by rw [hvl]; omega), hvl] at hv
          rw [hfl] at hj
          split at hj
          · rename_i hk
            rw [if_pos hk, hev] at hv
            obtain ⟨hj0, rfl⟩ := u8f hj
            rw [hj0] at hv
            simp at hv
            subst hv
            have hjj : j = f.offset := by omega
            subst hjj
            refine hsv.ren ?_
            show (if s = s then _ else _) = _
            rw [if_pos rfl]
          · rename_i hk
            rw [if_neg hk] at hv
            exact .pure (z4 j c v hj hv)
  · exact plain h
theorem um6 {t e : TypeId} {n : Nat} {ps : Array (Nat × Operand)} {a : Act} {out : Out PV} (hu : P.underlying t = some (.array n e)) (hk : known P e = true) (hz : isVal (tzero P t) = true)
    (h : bd (tzero P t).cells (parts P env (fun i => some (i * tsize P e, tsize P e)) ps) H = some out) (hT : TOk x g env a.tmps) (hinv : Inv g H w) : PureRes P g w H (Instr.build t (ps.map fun (i, y) => (i, a.eval y))) out := by
  unfold bd parts at h
  generalize hf : u39 _ _ = F at h
  cases F with
  | some cs' =>
    dsimp only at h
    obtain ⟨i, z, hi, hiz, hzz⟩ := u5w hz
    obtain ⟨d, hd⟩ := u3u hk
    obtain ⟨ie, hie⟩ := u0r hd
    rw [hzz] at hz hf
    obtain ⟨z1, z2, z3, z4⟩ := u7e (g := g) hz 0
    obtain ⟨vs', f1, f2, f3, f4⟩ := ufb (x := x) (a := a) (hi := hinv) (place := fun i => some (i * tsize P e, tsize P e)) ps.toList (ofV z).cells z.cells cs' hT hf z2 (fun j c hj => u4v z1 hj) z4
    refine u0d h (cv := .agg vs') ?_ (fun L => rT (.agg f2 f3 f4) L)
    simp only [Instr.build, Sem.run_bind, zeroValue, typeInfo, run_program, Result.andThen_ok, hi, Sem.run_pure, hiz, run_underlying hu, u0w (w := w) hie]
    have hps : (ps.map fun (i, y) => (i, a.eval y)).toList = ps.toList.map fun (i, y) => (i, a.eval y) := by simp
    rw [hps, f1]
    rfl
  | none => simp [M.fail] at h
theorem u86 : ∀ {xs : List PV} {l : List UInt8}, u58 xs = some l → ∃ ns : List Int, ns.length = xs.length ∧ l = ns.map (fun n => UInt8.ofNat n.toNat) ∧ ∀ (i : Nat) (y : PV), xs[i]? = some y → ∃ n, ns[i]? = some n ∧ y = .int .u8 n
  | [], l, h => by simp [u58] at h; subst h; exact ⟨[], rfl, rfl, fun i y hy => by simp at hy⟩
  | y :: r, l, h => by
    cases y with
    | int k n =>
      by_cases hk : k = .u8
      · subst hk
        simp only [u58, Option.map_eq_some_iff] at h
        obtain ⟨l', h1, rfl⟩ := h
        obtain ⟨ns, e1, e2, e3⟩ := u86 h1
        refine ⟨n :: ns, by simp [e1], by simp [e2], fun i y hy => ?_⟩
        cases i with
        | zero => simp at hy; subst hy; exact ⟨n, rfl, rfl⟩
        | succ i => simpa using e3 i y (by simpa using hy)
      · exfalso
        cases k <;> first | exact hk rfl | simp [u58] at h
    | _ => simp [u58] at h
theorem uc9 {s t e : TypeId} {p : PV} {u : Value} {out : Out PV} {own : Bool} (hs : P.underlying s = some (.slice e)) (he : P.underlying e = some (.int .u8)) (ht : P.underlying t = some .string) (h : cv .bytesToStr own p H = some out)
    (hi : Inv g H w) (hp : RepT g L p u) : PureRes P g w H (convert s t u) out := by
  cases p with
  | slice o z sz xs =>
    unfold cv at h
    dsimp only at h
    cases hb : u58 xs with
    | none => rw [hb] at h; simp [M.fail] at h
    | some l =>
      rw [hb] at h
      obtain ⟨ns, n1, n2, n3⟩ := u86 hb
      refine u0d h (cv := .string ⟨l.toArray⟩) ?_ (fun L => rStr _ L)
      rcases hp.slice with ⟨rfl, rfl, rfl, rfl⟩ | ⟨rfl, b, off, cap, sp, vs, rfl, hsp, h1, h2, h3, h4, _⟩
      · have hl0 : l = [] := by
          rw [n2]
          simp at n1
          simp [n1]
        subst hl0
        simp [convert, run_underlying hs, run_underlying ht, run_underlying he, Conv.bytesToString]
        rfl
      · rcases hsp with rfl | rfl
        rotate_left
        · have hx0 : xs = [] := List.eq_nil_of_length_eq_zero (by omega)
          subst hx0
          have hl0 : l = [] := by
            rw [n2]
            simp at n1
            simp [n1]
          subst hl0
          simp [convert, run_underlying hs, run_underlying ht, run_underlying he, Conv.bytesToString, loadCells, loadCellsFrom]
          rfl
        have hone : ∀ (i : Nat) (y : PV), xs[i]? = some y → sz = 1 := by
          intro i y hy
          obtain ⟨n, _, rfl⟩ := n3 i y hy
          have := h2 i _ hy
          simpa [PV.cells] using this.symm
        have hcell : ∀ j, j < ns.length → w.cell? ((⟨b, off, none⟩ : Addr).add j) = some (.int .u8 (ns.getD j 0)) := by
          intro j hj
          have hjx : j < xs.length := by omega
          have hy : xs[j]? = some xs[j] := List.getElem?_eq_getElem hjx
          obtain ⟨n, hn, hyn⟩ := n3 j _ hy
          have hs1 := hone j _ hy
          subst hs1
          rw [hyn] at hy
          have e1 := h3 j _ 0 (.int .u8 n) hy rfl
          have e2 := h4 j _ 0 (.int .u8 n) hy rfl
          have e3 : vs j 0 = .int .u8 n := by
            generalize vs j 0 = v at e2
            cases e2
            rfl
          rw [e3] at e1
          have := hi.im _ _ _ e1
          have hadd : (⟨b, off, none⟩ : Addr).add j = ⟨b, off + j, none⟩ := by unfold Addr.add; split <;> simp_all
          rw [hadd]
          simp only [Nat.mul_one, Nat.add_zero] at this
          rw [this]
          simp [hn]
        have := run_convert_bytes_arg (P := P) (w := w) s e hs he b off xs.length cap ns n1 (fun i hi2 => by
          have hadd : (⟨b, off, none⟩ : Addr).add i = ⟨b, off + i, none⟩ := by unfold Addr.add; split <;> simp_all
          rw [← hadd]
          exact hcell i (by omega)) t ht
        rw [this]
        simp [strOfNums, n2]
  | _ => (unfold cv at h; exact nomatch h)
end Go.Proofs.YtiiepllnnjjmaaaDoor.Pi
namespace Go.Proofs.YtiiepllnnjjmaaaDoor.Pi
variable {P : Program} {g : G} {L L' : Owner} {w w' : World} {H : Heap} {x : Nat} {env : Env}
theorem mk_ok {t e : TypeId} {p q : PV} {u v : Value} {out : Out PV} {own : Bool} {tm : Array Value} (d : Option Tmp) (hd : ∀ t, d = some t → own = true) (hu : P.underlying t = some (.slice e)) (hl : listOk P e = true)
    (h : mk own (tsize P e) (tbytes P e) p q H = some out) (hi : Inv g H w) (hT : TOk x g env tm) (hp : RepT g L p u) (hq : RepT g L' q v) : ValOk P x g w env tm d (Instr.makeSlice t u v) out := by
  obtain ⟨hk, hpos, hag, i, z, hinf, hz, hzs, his, hib⟩ := u6o hl
  unfold mk at h
  split at h
  · rename_i k n k' m
    obtain rfl := hp.int
    obtain rfl := hq.int
    cases hc : (decide (n = 0) && (decide (0 ≤ m) && growB (tbytes P e) m.toNat)) with
    | false => rw [hc] at h; simp [M.fail] at h
    | true =>
      rw [hc] at h
      simp only [cond_true, M.pure, Option.some.injEq] at h
      subst h
      simp only [Bool.and_eq_true, decide_eq_true_eq] at hc
      obtain ⟨rfl, hm, hg⟩ := hc
      obtain ⟨g1, g2⟩ := u7j hg
      have hbm : (i.bytes : Int) * m ≤ 281474976710656 := by
        rw [hib]
        have e1 : ((m.toNat * tbytes P e : Nat) : Int) ≤ 281474976710656 := by omega
        rw [Int.natCast_mul, Int.toNat_of_nonneg hm, Int.mul_comm] at e1
        exact e1
      have hrun := run_make (P := P) w t e i z hu hinf hz k k' 0 m (Int.le_refl _) hm hbm (by omega)
      simp only [Int.toNat_zero] at hrun
      obtain ⟨r1, r2, r3, r4, r5⟩ := u8b (xs := []) (sz := tsize P e) (cap := m.toNat) (.tmp (d.getD 0)) hi (Pushed.alloc w (.cells (madeCells z.cells (m.toNat * i.size)) e)) (fun i y hy => by simp at hy) (by simp) (by rw [size_madeCells, his]; exact Nat.le_refl _) (fun i y j c hy => by simp at hy)
      refine ⟨_, _, _, hrun, r2, r1, hT.mono r3 (fun _ _ => trivial), fun t' ht' => ?_⟩
      subst ht'
      rw [hd t' rfl]
      exact .one r4
  · simp [M.fail] at h
theorem udy {s t : TypeId} {k : IntKind} {p : PV} {u : Value} {out : Out PV} {own : Bool} (hs : P.underlying s = some (.int k)) (ht : P.underlying t = some .string) (h : cv .runeToStr own p H = some out) (hp : RepT g L p u) : PureRes P g w H (convert s t u) out := by
  cases p with
  | int k n =>
    unfold cv at h
    obtain rfl := hp.int
    exact u0d h (by simp [convert, run_underlying hs, run_underlying ht, Conv.intToString]) (fun L => rStr _ L)
  | _ => (unfold cv at h; exact nomatch h)
theorem um4 {s t : TypeId} {k k' : IntKind} {p : PV} {u : Value} {out : Out PV} {own : Bool} (hs : P.underlying s = some (.int k)) (ht : P.underlying t = some (.int k')) (h : cv (.int k') own p H = some out) (hp : RepT g L p u) : PureRes P g w H (convert s t u) out := by
  cases p with
  | int k n =>
    unfold cv at h
    obtain rfl := hp.int
    exact u0d h (by simp [convert, run_underlying hs, run_underlying ht, Conv.intToInt]) (fun L => rInt _ _ L)
  | _ => (unfold cv at h; exact nomatch h)
theorem uld {s t : TypeId} {p : PV} {u : Value} {out : Out PV} {own : Bool} (hs : P.underlying s = some .string) (ht : P.underlying t = some .string) (h : cv .same own p H = some out) (hp : RepT g L p u) : PureRes P g w H (convert s t u) out := by
  cases p with
  | str n =>
    unfold cv at h
    obtain rfl := hp.str
    exact u0d h (by simp [convert, run_underlying hs, run_underlying ht]) (fun L => rStr _ L)
  | _ => (unfold cv at h; exact nomatch h)
theorem unp {cells : Array Value} {T : TypeId} {fr : Nat × Nat} {xs : List PV} (hi : Inv g H w) (hp : Pushed w w' (.cells cells T fr)) (hsz : ∀ (i : Nat) (y : PV), xs[i]? = some y → y.cells.length = 1)
    (hr : ∀ (i : Nat) (y : PV) (c : PV), xs[i]? = some y → y.cells[0]? = some c → ∃ v, cells[i]? = some v ∧ RepF g.im c v) {cap : Nat} (hc : xs.length ≤ cap) :
    let g' : G := { g with im := fun b o => if b = w.heap.size then cells[o]? else g.im b o }
    Inv g' H w' ∧ Glob g w g' w' ∧ Grow (fun _ => True) g g' ∧ RepF g'.im (.slice false false 1 xs) (.slice (some ⟨w.heap.size, 0, none⟩) xs.length cap) := by
  intro g'
  have him : ∀ b o v, g.im b o = some v → g'.im b o = some v := by
    intro b o v hv
    have := hi.lt_im hv
    show (if b = w.heap.size then _ else _) = _
    rw [if_neg (by omega)]
    exact hv
  have hne : ∀ b, b ≠ w.heap.size → g'.im b = g.im b := by
    intro b hb
    funext o
    show (if b = w.heap.size then _ else _) = _
    rw [if_neg hb]
  have hgrow : Grow (fun _ => True) g g' := ⟨fun _ _ h => h, him, fun b M s _ hb => by
    have := hi.lt_ow hb
    exact ⟨hb, fun o ho => by rw [hne b (by omega)]; exact ho⟩⟩
  refine ⟨⟨hi.len, hi.nd, fun b o v hv => ?_, fun b M s hb => ?_, fun id b y hb hy => ?_, hi.gl.mono hgrow.im⟩, ⟨hp.os, hp.tape, hp.output, by rw [hp.size]; omega, fun b hb h1 h2 => ⟨h1, h2, hp.old hb⟩, hgrow.sub (fun _ _ => trivial)⟩, hgrow, .slice (fun i j => cells.getD i undef) (.inl rfl) hc hsz (fun i y j c hy hj => ?_) (fun i y j c hy hj => ?_)⟩
  · by_cases e : b = w.heap.size
    · subst e
      have hv2 : cells[o]? = some v := by
        have : (if w.heap.size = w.heap.size then cells[o]? else g.im w.heap.size o) = some v := hv
        rwa [if_pos rfl] at this
      simpa [World.cell?, hp.new] using hv2
    · rw [hne b e] at hv
      rw [hp.cell (hi.lt_im hv)]
      exact hi.im b o v hv
  · have hb : g.ow b = some (M, s) := hb
    rw [hp.old (hi.lt_ow hb)]
    exact hi.ow b M s hb
  · have hlt := hi.lt_ι hb
    exact (hi.box id b y hb hy).mono (hgrow.sub (fun _ _ => trivial)) (fun h => h) (fun h o => by rw [hne b (by omega)]; exact h o) (hp.old hlt) (by rw [hp.size]; omega)
  · have hj0 : j = 0 := by
      have h1 := hsz i y hy
      have h2 := (List.getElem?_eq_some_iff.mp hj).1
      omega
    subst hj0
    obtain ⟨v, hv, _⟩ := hr i y c hy hj
    show (if w.heap.size = w.heap.size then cells[0 + i * 1 + 0]? else _) = _
    rw [if_pos rfl]
    simp [hv]
  · have hj0 : j = 0 := by
      have h1 := hsz i y hy
      have h2 := (List.getElem?_eq_some_iff.mp hj).1
      omega
    subst hj0
    obtain ⟨v, hv, hrv⟩ := hr i y c hy hj
    have : cells.getD i undef = v := by simp [Array.getD_eq_getD_getElem?, hv]
    rw [this]
    exact hrv.mono him
theorem uc4 {s t e : TypeId} {p : PV} {u : Value} {out : Out PV} {own : Bool} {tm : Array Value} (d : Option Tmp) (hs : P.underlying s = some .string) (ht : P.underlying t = some (.slice e)) (he : P.underlying e = some (.int .u8))
    (h : cv (.strToBytes e) own p H = some out) (hi : Inv g H w) (hT : TOk x g env tm) (hp : RepT g L p u) : ValOk P x g w env tm d (convert s t u) out := by
  cases p with
  | str b =>
    unfold cv at h
    obtain rfl := hp.str
    simp only [M.pure, Option.some.injEq] at h
    subst h
    generalize hcap : (Question.appendCap b.size 0 e).cut (w.tape w.drawn (.appendCap b.size 0 e)) = cap
    have hge : b.size ≤ cap := by rw [← hcap]; simp [Question.cut]
    generalize hce : (b.data.map fun (b : UInt8) => Value.int .u8 b.toNat) ++ Array.replicate (cap - b.size) (Value.int .u8 0) = cells
    have hnew : (w.drew.alloc (.cells cells e)).heap[w.heap.size]? = some (.cells cells e (0, 0)) := (Pushed.drew w _).new
    have hshape : (w.drew.alloc (.cells cells e)).shape? w.heap.size = some (e, cells.size) := by
      unfold World.shape?
      rw [hnew]
    have hmark : (markStringish ⟨w.heap.size, 0, none⟩).run P (w.drew.alloc (.cells cells e)) = .ok () ((w.drew.alloc (.cells cells e)).freeze { block := w.heap.size, off := cells.size } 1) := by
      simp only [markStringish, Sem.run_bind, run_shape, Result.andThen_ok, hshape]
      rfl
    have hp' : ∃ fr, Pushed w ((w.drew.alloc (.cells cells e)).freeze { block := w.heap.size, off := cells.size } 1) (.cells cells e fr) := by
      refine ⟨(cells.size, cells.size + 1), ⟨?_, rfl, rfl, rfl⟩⟩
      apply Array.ext_getElem?
      intro k
      simp only [World.freeze, Nat.succ_ne_zero, if_false, Array.getElem?_modify, Array.getElem?_push]
      by_cases hk : w.heap.size = k
      · subst hk
        rw [if_pos rfl, hnew]
        simp
      · rw [if_neg hk]
        rw [if_neg (fun h => hk h.symm)]
        show (w.drew.alloc _).heap[k]? = _
        have : (w.drew.alloc (.cells cells e)).heap = w.heap.push (.cells cells e) := rfl
        rw [this, Array.getElem?_push, if_neg (fun h => hk h.symm)]
    obtain ⟨fr, hp'⟩ := hp'
    have hrun : (convert s t (.string b)).run P w = .ok (.slice (some ⟨w.heap.size, 0, none⟩) b.size cap) ((w.drew.alloc (.cells cells e)).freeze { block := w.heap.size, off := cells.size } 1) := by
      have e1 : (newRow e cells).run P w.drew = .ok ⟨w.heap.size, 0, none⟩ (w.drew.alloc (.cells cells e)) := by
        simp [newRow]
        rfl
      have e2 : (choose (.appendCap b.size 0 e)).run P w = .ok cap w.drew := by
        rw [run_choose]
        simp only [Question.forced, Bool.false_eq_true, if_false, hcap]
        rfl
      simp only [convert, Sem.run_bind, run_underlying hs, run_underlying ht, run_underlying he, Result.andThen_ok, Conv.stringToBytes, e2, hce, e1, hmark, Sem.run_pure]
    have hbl : b.size = (b.data.toList.map fun (b : UInt8) => PV.int .u8 b.toNat).length := by
      simp
    obtain ⟨r1, r2, r3, r4⟩ := unp (xs := b.data.toList.map fun (b : UInt8) => PV.int .u8 b.toNat) (cap := cap) hi hp' (fun i y hy => by
        simp only [List.getElem?_map, Option.map_eq_some_iff] at hy
        obtain ⟨q, _, rfl⟩ := hy
        rfl) (fun i y c hy hc => by
        simp only [List.getElem?_map, Option.map_eq_some_iff] at hy
        obtain ⟨q, hq, rfl⟩ := hy
        simp [PV.cells] at hc
        subst hc
        refine ⟨.int .u8 q.toNat, ?_, .int _ _⟩
        have hlt : i < b.data.size := by
          have := (List.getElem?_eq_some_iff.mp hq).1
          simpa using this
        rw [← hce, Array.getElem?_append_left (by simpa using hlt)]
        simp only [Array.getElem?_map]
        rw [Array.getElem?_toList] at hq
        rw [hq]
        rfl) (by rw [← hbl]; exact hge)
    refine ⟨_, _, _, hrun, r2, r1, hT.mono r3 (fun _ _ => trivial), fun t' _ => ?_⟩
    rw [hbl]
    exact rF r4 _
  | _ => (unfold cv at h; exact nomatch h)
theorem nx_ok {ty : TypeId} {p : PV} {u : Value} {out : Out PV} {tm : Array Value} (d : Option Tmp) (h : nx p H = some out) (hi : Inv g H w) (hT : TOk x g env tm) (hp : RepT g L p u) : ValOk P x g w env tm d (Instr.next u true ty) out := by
  cases p with
  | ptr id o =>
    obtain ⟨b, hb, rfl⟩ := hp.ptr
    cases o with
    | succ o => exact nomatch h
    | zero =>
      have hnx : nx (.ptr id 0) H = match H[id]? with
        | some (.iter s pos) => bif decide (pos < s.size) then some (.ok (.tup [.bool true, .int .i64 pos, .int .i32 (Utf8.decode s pos).1]) (H.set id (.iter s (pos + (Utf8.decode s pos).2)))) else some (.ok (.tup [.bool false]) H)
        | _ => none := rfl
      have h : nx (.ptr id 0) H = some out := h
      rw [hnx] at h
      clear hnx
      cases hy : H[id]? with
      | none => rw [hy] at h; simp at h
      | some y =>
        rw [hy] at h
        cases y with
        | iter s pos =>
          dsimp only at h
          obtain ⟨b', hb', h1, h2, h3⟩ := hi.boxAt hy
          obtain rfl : b = b' := by rw [hb] at hb'; exact Option.some.inj hb'
          have hid : id < H.length := (List.getElem?_eq_some_iff.mp hy).1
          have hlt : b < w.heap.size := (Array.getElem?_eq_some_iff.mp h3).1
          have hget : (getObj b).run P w = .ok (.stringIter s pos) w := by
            simp only [getObj, Sem.run, h3]
          by_cases hpos : pos < s.size
          · rw [decide_eq_true hpos] at h
            simp only [cond_true, Option.some.injEq] at h
            subst h
            generalize hdec : Utf8.decode s pos = dd
            obtain ⟨c, width⟩ := dd
            have hset : (setObj b (.stringIter s (pos + width))).run P w = .ok () { w with heap := w.heap.setIfInBounds b (.stringIter s (pos + width)) } := by
              simp only [setObj, Sem.run, h3]
            have hoth : ∀ {k : Nat}, k ≠ b → ({ w with heap := w.heap.setIfInBounds b (.stringIter s (pos + width)) } : World).heap[k]? = w.heap[k]? := by
              intro k hk
              exact Array.getElem?_setIfInBounds_ne (fun h => hk h.symm)
            have hsz : ({ w with heap := w.heap.setIfInBounds b (.stringIter s (pos + width)) } : World).heap.size = w.heap.size := by simp
            refine ⟨.tuple #[.bool true, goInt pos, .int .i32 c], { w with heap := w.heap.setIfInBounds b (.stringIter s (pos + width)) }, g, ?_, ⟨rfl, rfl, rfl, by rw [hsz]; exact Nat.le_refl _, fun b' hb' e1 e2 => ⟨e1, e2, hoth (fun e => e2 (e ▸ List.mem_of_getElem? hb))⟩, Grow.refl _ _⟩, ?_, hT, fun t' _ => ?_⟩
            · simp [Instr.next, hget, hpos, hdec, hset]
            · refine ⟨by simp [hi.len], hi.nd, fun b' k v hv => ?_, fun b' M s' hq => ?_, fun id' b' y' hb3 hy' => ?_, hi.gl⟩
              · have hne : b' ≠ b := fun e => by subst e; rw [h2 k] at hv; cases hv
                have := hi.im b' k v hv
                simp only [World.cell?] at this ⊢
                rw [hoth hne]
                exact this
              · have hne : b' ≠ b := fun e => by subst e; rw [h1] at hq; cases hq
                rw [hoth hne]
                exact hi.ow b' M s' hq
              · by_cases e : id = id'
                · subst e
                  rw [List.getElem?_set_self hid] at hy'
                  simp only [Option.some.injEq] at hy'
                  subst hy'
                  obtain rfl : b = b' := by rw [hb] at hb3; exact Option.some.inj hb3
                  refine ⟨h1, h2, ?_⟩
                  show (w.heap.setIfInBounds b _)[b]? = _
                  rw [Array.getElem?_setIfInBounds_self_of_lt hlt]
                · rw [List.getElem?_set_ne e] at hy'
                  have hne : b' ≠ b := fun e' => by
                    subst e'
                    exact e (hi.nd id id' b' hb hb3)
                  exact (hi.box id' b' y' hb3 hy').mono (Grow.refl _ _) (fun h => h) (fun h => h) (hoth hne) (by rw [hsz]; omega)
            · refine .tup rfl fun j q v hq hv => ?_
              match j with
              | 0 => simp at hq hv; subst hq; subst hv; exact .pure (.flat (.bool _))
              | 1 => simp at hq hv; subst hq; subst hv; exact .pure (.flat (.int _ _))
              | 2 => simp at hq hv; subst hq; subst hv; exact .pure (.flat (.int _ _))
              | j + 3 => simp at hq
          · rw [decide_eq_false hpos] at h
            simp only [cond_false, Option.some.injEq] at h
            subst h
            refine ⟨.tuple #[.bool false], w, g, ?_, Glob.refl _ _, hi, hT, fun t' _ => ?_⟩
            · simp [Instr.next, hget, hpos]
            · refine .tup rfl fun j q v hq hv => ?_
              match j with
              | 0 => simp at hq hv; subst hq; subst hv; exact .pure (.flat (.bool _))
              | j + 1 => simp at hq
        | cells cs => simp at h
        | dead => simp at h
  | _ => (unfold nx at h; exact nomatch h)
end Go.Proofs.YtiiepllnnjjmaaaDoor.Pi
namespace Go.Proofs.YtiiepllnnjjmaaaDoor.Pi
variable {P : Program} {g : G} {L L' : Owner} {w w' : World} {H : Heap} {x : Nat} {env : Env}
theorem unz (p : PV) : (∃ id, p = .ptr id 0) ∨ ∀ own n hi H, slA own n p hi H = none := by
  cases p with
  | ptr id o =>
    cases o with
    | zero => exact .inl ⟨id, rfl⟩
    | succ k => exact .inr fun _ _ _ _ => rfl
  | _ => exact .inr fun _ _ _ _ => rfl
theorem slA_ok {t e : TypeId} {n : Nat} {hi' : Option PV} {chi : Option Value} {p : PV} {u : Value} {tm : Array Value} {own : Bool} {out : Out PV} (d : Option Tmp) (hd : ∀ t, d = some t → own = true) (hu : P.underlying t = some (.array n e)) (hsz : tsize P e = 1) (hk : known P e = true)
    (h : slA own n p hi' H = some out) (hi : Inv g H w) (ht : TOk x g env tm) (hp : RepT g L p u) (rhi : ∀ q, hi' = some q → ∃ v L, chi = some v ∧ RepT g L q v) (nhi : hi' = none → chi = none) :
    ValOk P x g w env tm d (Instr.sliceAt t u none chi none) out := by
  obtain ⟨de, hde⟩ := u3u hk
  obtain ⟨inf, hinf⟩ := u0r hde
  rcases unz p with ⟨id, rfl⟩ | hno
  · skip
    obtain ⟨b, hb, rfl⟩ := hp.ptr
    have h : slH own n id H H[id]? (bnd n hi') = some out := h
    cases hy : H[id]? with
    | none => rw [hy] at h; cases h
    | some y =>
      cases y with
      | cells cs =>
        cases hbn : bnd n hi' with
        | none => rw [hy, hbn] at h; cases h
        | some hh =>
          rw [hy, hbn] at h
          obtain ⟨b', hb', hbox⟩ := hi.boxAt hy
          obtain rfl : b = b' := by rw [hb] at hb'; exact Option.some.inj hb'
          obtain ⟨h1, h2, vs, T, h3, h4, h5⟩ := hbox
          have h : (bif decide (hh ≤ n) && (cs.length == n && (cs.map stripC).all (u1i none)) then some (Out.ok (.slice own false 1 ((cs.map stripC).take hh)) (H.set id .dead)) else none) = some out := h
          cases hc : (decide (hh ≤ n) && (cs.length == n && (cs.map stripC).all (u1i none))) with
          | false => rw [hc] at h; simp at h
          | true =>
            rw [hc] at h
            simp only [cond_true, Option.some.injEq] at h
            subst h
            simp only [Bool.and_eq_true, beq_iff_eq, decide_eq_true_eq] at hc
            obtain ⟨hhn, hcn, hall⟩ := hc
            have hblt : b < w.heap.size := (Array.getElem?_eq_some_iff.mp h3).1
            have hbo := u6z (P := P) (w := w) (g := g) (isS := false) (len := n) (cap := n) (lo := none) (clo := none) hbn rfl (fun q hq => by cases hq) (fun _ => rfl) rhi nhi (Nat.zero_le _) hhn
            have hrun : (Instr.sliceAt t (.pointer (some ⟨b, 0, none⟩)) none chi none).run P w = .ok (.slice (some ⟨b, 0, none⟩) hh n) w := by
              have hse : (sizeOf e).run P w = .ok (tsize P e) w := u0w (w := w) hinf
              simp [Instr.sliceAt, run_underlying hu, Instr.sureAddr, hbo, hse]
              intro _
              simp [Addr.add]
            let g' : G := ⟨g.ι, fun b' o => if b' = b then (if o < hh then vs[o]? else none) else g.im b' o, fun b' => if b' = b then some (.tmp (d.getD 0), n) else g.ow b'⟩
            have hgr : Grow (fun _ => True) g g' := by
              refine ⟨fun _ _ h => h, fun b' o v hv => ?_, fun b' L s _ hbo' => ?_⟩
              · show (if b' = b then _ else g.im b' o) = _
                rw [if_neg (fun e => by subst e; rw [h2] at hv; cases hv)]
                exact hv
              · have hne : b' ≠ b := fun e => by subst e; rw [h1] at hbo'; cases hbo'
                refine ⟨?_, fun o ho => ?_⟩
                · show (if b' = b then _ else g.ow b') = _
                  rw [if_neg hne]; exact hbo'
                · show (if b' = b then _ else g.im b' o) = _
                  rw [if_neg hne]; exact ho
            have hcell : ∀ (o : Nat) (c : PV) (v : Value), cs[o]? = some c → vs[o]? = some v → RepF g'.im (stripC c) v ∧ (stripC c).cells = [stripC c] := by
              intro o c v hc' hv
              obtain ⟨r1, r2, _⟩ := h5 o c v hc' hv
              have hf : u1i none (stripC c) = true := List.all_eq_true.mp hall _ (List.mem_map.mpr ⟨c, List.mem_of_getElem? hc', rfl⟩)
              have hl : (stripC c).cells = [stripC c] := by
                have r3 : isCell (stripC c) = true := by rwa [u3a]
                generalize stripC c = q at r3
                cases q <;> first | rfl | simp [isCell] at r3
              have hone := u5q r1 r2
              have hv1 : v.cells = #[v] := by cases v <;> first | rfl | simp [Value.oneCell'] at hone
              exact ⟨((u8j hf (.one r1)).2.2.2 0 (stripC c) v (by rw [hl]; rfl) (by rw [hv1]; rfl)).mono hgr.im, hl⟩
            refine ⟨_, w, g', hrun, ⟨rfl, rfl, rfl, Nat.le_refl _, fun b' hb1 hb2 hb3 => ?_, hgr.sub (fun _ _ => True.intro)⟩, ?_, ht.mono hgr (fun _ _ => True.intro), fun t' ht' => ?_⟩
            · have hne : b' ≠ b := fun e => by subst e; exact hb3 (List.mem_of_getElem? hb)
              refine ⟨?_, hb3, rfl⟩
              show (if b' = b then _ else g.ow b') = _
              rw [if_neg hne]; exact hb2
            · refine ⟨by simp [hi.len, g'], hi.nd, fun b' o v hv => ?_, fun b' L s hbs => ?_, fun id' b' y hbi hy' => ?_, hi.gl.mono hgr.im⟩
              · by_cases e : b' = b
                · subst e
                  have hv : (if b' = b' then (if o < hh then vs[o]? else none) else g.im b' o) = some v := hv
                  rw [if_pos rfl] at hv
                  split at hv
                  · rw [u6u h3]; exact hv
                  · cases hv
                · have hv : (if b' = b then (if o < hh then vs[o]? else none) else g.im b' o) = some v := hv
                  rw [if_neg e] at hv
                  exact hi.im b' o v hv
              · by_cases e : b' = b
                · subst e
                  have hbs : (if b' = b' then some (Owner.tmp (d.getD 0), n) else g.ow b') = some (L, s) := hbs
                  rw [if_pos rfl] at hbs
                  cases hbs
                  exact ⟨vs, T, h3, by omega⟩
                · have hbs : (if b' = b then some (Owner.tmp (d.getD 0), n) else g.ow b') = some (L, s) := hbs
                  rw [if_neg e] at hbs
                  exact hi.ow b' L s hbs
              · by_cases e : id' = id
                · subst e
                  have hlt : id' < H.length := by
                    have := (List.getElem?_eq_some_iff.mp hy').1
                    simpa using this
                  rw [List.getElem?_set_self hlt] at hy'
                  cases hy'
                  have hbq : g.ι[id']? = some b' := by assumption
                  have : b' = b := by rw [hb] at hbq; exact (Option.some.inj hbq).symm
                  rw [this]
                  exact hblt
                · rw [List.getElem?_set_ne (fun h => e h.symm)] at hy'
                  have hne : b' ≠ b := fun h => by subst h; exact e (hi.nd _ _ _ hbi hb)
                  refine (hi.box id' b' y hbi hy').mono (hgr.sub (fun _ _ => True.intro)) (fun ho => ?_) (fun ho o => ?_) rfl (Nat.le_refl _)
                  · show (if b' = b then _ else g.ow b') = _
                    rw [if_neg hne]; exact ho
                  · show (if b' = b then _ else g.im b' o) = _
                    rw [if_neg hne]; exact ho o
            · have ho := hd t' ht'
              subst ho
              subst ht'
              have hlen : ((cs.map stripC).take hh).length = hh := by simp; omega
              have get : ∀ (i : Nat) (y : PV), ((cs.map stripC).take hh)[i]? = some y → i < hh ∧ ∃ c v, cs[i]? = some c ∧ y = stripC c ∧ vs[i]? = some v := by
                intro i y hy'
                have hlt : i < hh := by
                  have := (List.getElem?_eq_some_iff.mp hy').1
                  omega
                rw [List.getElem?_take, if_pos hlt, List.getElem?_map] at hy'
                obtain ⟨c, hc', rfl⟩ := Option.map_eq_some_iff.mp hy'
                exact ⟨hlt, c, vs[i], hc', rfl, Array.getElem?_eq_getElem (by omega)⟩
              have := RepS.own (g := g') (L := .tmp t') (b := b) (o := 0) (cap := n) (sz := 1) (xs := (cs.map stripC).take hh) (s := n) (fun i _ => vs.getD i undef) (by omega) (fun i y hy' => by
                obtain ⟨_, c, v, hc', rfl, hv⟩ := get i y hy'
                rw [(hcell i c v hc' hv).2]
                rfl) (fun i y j c0 hy' hj => by
                obtain ⟨hlt, c, v, hc', rfl, hv⟩ := get i y hy'
                rw [(hcell i c v hc' hv).2] at hj
                have hj0 : j = 0 := by
                  have := (List.getElem?_eq_some_iff.mp hj).1
                  simp at this
                  omega
                subst hj0
                show (if b = b then (if 0 + i * 1 + 0 < hh then vs[0 + i * 1 + 0]? else none) else _) = _
                rw [if_pos rfl, if_pos (by omega)]
                simp [Array.getD_eq_getD_getElem?, hv]) (fun i y j c0 hy' hj => by
                obtain ⟨hlt, c, v, hc', rfl, hv⟩ := get i y hy'
                have hr := hcell i c v hc' hv
                rw [hr.2] at hj
                have hj0 : j = 0 := by
                  have := (List.getElem?_eq_some_iff.mp hj).1
                  simp at this
                  omega
                subst hj0
                cases hj
                simp only [Array.getD_eq_getD_getElem?, hv, Option.getD_some]
                exact hr.1) (by show (if b = b then _ else _) = _; rw [if_pos rfl]; rfl) (by omega) (fun off hoff => by
                show (if b = b then (if off < hh then vs[off]? else none) else _) = _
                rw [if_pos rfl, if_neg (by omega)])
              rw [hlen] at this
              exact .one this
      | iter s q => rw [hy] at h; cases h
      | dead => rw [hy] at h; cases h
  · rw [hno] at h
    cases h
end Go.Proofs.YtiiepllnnjjmaaaDoor.Pi
namespace Go.Proofs.YtiiepllnnjjmaaaDoor.Pi
variable {P : Program} {g : G} {L L' : Owner} {w w' : World} {H : Heap} {x : Nat} {env : Env}
def OpRes (x : Nat) (g : G) (w : World) (env' : Env) (tm : Array Value) (d : Option Tmp) (r : Result Next) : Out PV → Prop
  | .ok v H' => ∃ cv w' g', (r = .ok (.value cv) w' ∨ (r = .ok .skip w' ∧ cv = undef)) ∧ Glob g w g' w' ∧ Inv g' H' w' ∧ TOk x g' env' tm ∧ ∀ t, d = some t → RepT g' (.tmp t) v cv
  | .pan v H' => ∃ cv w' g', r = .halt (.panic cv) w' ∧ Glob g w g' w' ∧ Inv g' H' w' ∧ Grow IsTmp g g' ∧ Rep g'.ι g'.im v cv
theorem ValOk.op {s : Sem Value} {out : Out PV} {env' : Env} {tm : Array Value} {d : Option Tmp} (h : ValOk P x g w env' tm d s out) : OpRes x g w env' tm d ((do pure (.value (← s)) : Sem Next).run P w) out := by
  cases out with
  | ok v H' =>
    obtain ⟨cv, w', g', h1, r⟩ := h
    exact ⟨cv, w', g', .inl (by simp [h1]), r⟩
  | pan v H' =>
    obtain ⟨cv, w', g', h1, r⟩ := h
    exact ⟨cv, w', g', by simp [h1, Result.andThen], r⟩
theorem UnitOk.op {s : Sem Unit} {out : Out PV} {env' : Env} {tm : Array Value} {d : Option Tmp} (h : UnitOk P x g w env' tm s out) : OpRes x g w env' tm d ((do s; pure .skip : Sem Next).run P w) out := by
  cases out with
  | ok v H' =>
    obtain ⟨w', g', h0, h1, h2, h3, h4⟩ := h
    exact ⟨undef, w', g', .inr ⟨by simp [h1], rfl⟩, h2, h3, h4, fun t _ => by rw [h0]; exact .one (.undef _)⟩
  | pan v H' => exact h.elim
theorem u03 {b : Bool} {m : M PV} {out : Out PV} (h : guardM b m H = some out) : b = true ∧ m H = some out := by
  unfold guardM at h
  cases b
  · simp [M.fail] at h
  · exact ⟨rfl, h⟩
theorem u7q : (runtimePanic .nilDeref : Sem Next).run P w = .halt (.panic (.iface P.rt.errorString (strVal "invalid memory address or nil pointer dereference"))) w := by simp [runtimePanic]
theorem u83 : Rep g.ι g.im (nilDeref P) (.iface P.rt.errorString (strVal "invalid memory address or nil pointer dereference")) := .iface (.flat (.str _))
def srcMv (mv : Bool) : Operand → Option (Tmp × Option Nat)
  | .tmp s => bif mv then some (s, none) else none
  | _ => none
def srcEx (i : Nat) : Operand → Option (Tmp × Option Nat)
  | .tmp s => some (s, some i)
  | _ => none
theorem uj8 {X : Operand} {mv : Bool} {d : Option Tmp} {a : Act} {out : Out PV} (hi : Inv g H w) (hT : TOk x g env a.tmps) (h : M.pure (bif mv then ev env X else strip (ev env X)) H = some out) :
    OpRes x g w (giveUp env (srcMv mv X)) a.tmps d (.ok (.value (a.eval X)) w) out := by
  simp only [M.pure, Option.some.injEq] at h
  subst h
  have rX := ev_rep hi hT X
  cases mv with
  | false =>
    have e : srcMv false X = none := by cases X <;> rfl
    rw [e]
    exact ⟨a.eval X, w, g, .inl rfl, Glob.refl _ _, hi, hT, fun t _ => rX.strip⟩
  | true =>
    cases X with
    | tmp s =>
      cases d with
      | none => exact ⟨_, w, g, .inl rfl, Glob.refl _ _, hi, hT.giveUp _, fun t ht => nomatch ht⟩
      | some d =>
        refine ⟨_, w, g.ren (mvTmp s d), .inl rfl, u36 (fun M => rfl), hi.ren (fun _ _ => rfl), hT.move s d, fun t ht => ?_⟩
        simp only [Option.some.injEq] at ht
        subst ht
        refine rX.ren ?_ (fun j => ?_)
        · show (if s = s then _ else _) = _
          rw [if_pos rfl]
        · show (if s = s then _ else _) = _
          rw [if_pos rfl]
    | const v => exact ⟨_, w, g, .inl rfl, Glob.refl _ _, hi, hT, fun t _ => u8v v _⟩
    | global v =>
      refine ⟨_, w, g, .inl rfl, Glob.refl _ _, hi, hT, fun t _ => ?_⟩
      show RepT g _ (GT v) _
      rcases hi.gl v with e | e
      · rw [e]; exact .one (.undef _)
      · exact .one (.pure (e.mono (fun i b h => by simp at h) (fun _ _ _ h => h)))
    | func v => exact ⟨_, w, g, .inl rfl, Glob.refl _ _, hi, hT, fun t _ => rT (.fn rfl rfl (fun j c v h => by simp at h) (fun j c v h => by simp at h)) _⟩
theorem uj0 {X : Operand} {i : Nat} {d : Option Tmp} {a : Act} {out : Out PV} (hi : Inv g H w) (hT : TOk x g env a.tmps) (h : ex i (ev env X) H = some out) :
    OpRes x g w (giveUp env (srcEx i X)) a.tmps d ((do pure (.value (← Instr.extract (a.eval X) i)) : Sem Next).run P w) out := by
  have rX := ev_rep hi hT X
  cases X with
  | tmp s =>
    cases hp : ev env (.tmp s) with
    | tup ps =>
      rw [hp] at h rX
      obtain ⟨vs, hv, h1, h2⟩ := rX.tupI
      unfold ex at h
      dsimp only at h
      cases hpi : ps[i]? with
      | none => rw [hpi] at h; simp [M.fail] at h
      | some p =>
        rw [hpi] at h
        simp only [M.pure, Option.some.injEq] at h
        subst h
        have hlt : i < vs.size := by rw [h1]; exact (List.getElem?_eq_some_iff.mp hpi).1
        have hvi : vs[i]? = some vs[i] := by simp [hlt]
        have hr := h2 i p vs[i] hpi hvi
        have hrun : ((do pure (.value (← Instr.extract (a.eval (.tmp s)) i)) : Sem Next).run P w) = .ok (.value vs[i]) w := by
          rw [hv]
          simp [Instr.extract, hvi]
        rw [hrun]
        cases d with
        | none => exact ⟨_, w, g, .inl rfl, Glob.refl _ _, hi, hT.giveUp (some (s, some i)), fun t ht => nomatch ht⟩
        | some d =>
          refine ⟨_, w, g.ren (mvSub s i d), .inl rfl, u36 (fun M => rfl), hi.ren (fun _ _ => rfl), hT.moveSub s i d, fun t ht => ?_⟩
          simp only [Option.some.injEq] at ht
          subst ht
          refine .one (hr.ren ?_)
          show (if s = s ∧ i = i then _ else _) = _
          rw [if_pos ⟨rfl, rfl⟩]
    | _ => (rw [hp] at h; unfold ex at h; exact nomatch h)
  | const v =>
    have : ∀ ps, ev env (.const v) ≠ .tup ps := by
      intro ps hps
      simp only [ev] at hps
      unfold ofV at hps
      split at hps
      · split at hps <;> cases hps
      · rename_i f aa bb
        cases hab : (aa.size == 0 && bb.size == 0) <;> rw [hab] at hps <;> simp at hps
      · unfold ofVC at hps
        split at hps <;> simp at hps
    generalize ev env (.const v) = q at h this
    cases q <;> first | exact absurd rfl (this _) | (unfold ex at h; exact nomatch h)
  | global v => (simp only [ev] at h; rcases ug9 v with e | ⟨cs, e⟩ <;> rw [e] at h <;> unfold ex at h <;> exact nomatch h)
  | func v => (simp only [ev] at h; unfold ex at h; exact nomatch h)
def u7i : Op → Bool
  | .call { callee := .builtin .recover, .. } => false
  | .call { callee := .builtin _, .. } => true
  | .call _ | .defer _ => false
  | _ => true
theorem ukg {a : Act} (hi : Inv g H w) (hT : TOk x g env a.tmps) (o : Option Operand) : (∀ q, o.map (ev env) = some q → ∃ v L, o.map a.eval = some v ∧ RepT g L q v) ∧ (o.map (ev env) = none → o.map a.eval = none) := by
  cases o with
  | none => exact ⟨fun q h => by simp at h, fun _ => rfl⟩
  | some X =>
    refine ⟨fun q h => ?_, fun h => by simp at h⟩
    simp only [Option.map_some, Option.some.injEq] at h
    subst h
    exact ⟨_, _, rfl, ev_rep hi hT X⟩
theorem ug4 {a : Act} (hi : Inv g H w) (hT : TOk x g env a.tmps) (l : Array Operand) : ∀ (j : Nat) (c : PV) (v : Value), (l.toList.map (ev env))[j]? = some c → (l.map a.eval)[j]? = some v → ∃ L, RepT g L c v := by
  intro j c v hc hv
  simp only [List.getElem?_map, Option.map_eq_some_iff] at hc
  obtain ⟨X, hX, rfl⟩ := hc
  have hX2 : l[j]? = some X := by simpa using hX
  simp only [Array.getElem?_map, hX2, Option.map_some, Option.some.injEq] at hv
  subst hv
  exact ⟨_, ev_rep hi hT X⟩
end Go.Proofs.YtiiepllnnjjmaaaDoor.Pi
namespace Go.Proofs.YtiiepllnnjjmaaaDoor.Pi
variable {P : Program} {g : G} {L L' : Owner} {w w' : World} {H : Heap} {x : Nat} {env : Env}
theorem umk {t : TypeId} {out : Out PV} (h : al (tzero P t).cells H = some out) : ∃ i z, P.info? t = some i ∧ i.zero = some z ∧ tzero P t = ofV z := by
  unfold tzero at h ⊢
  cases hzz : (P.info? t).bind (·.zero) with
  | none => rw [hzz] at h; simp [al, PV.cells, isCell] at h
  | some z =>
    obtain ⟨i, hi, hiz⟩ := Option.bind_eq_some_iff.mp hzz
    exact ⟨i, z, hi, hiz, by simp⟩
theorem u00 {α : Type} {out : Out α} (h : (M.fail : M α) H = some out) : False := by simp [M.fail] at h
theorem ujz {C : CallT} {rc : Option (Option PV)} {ops : Array Oper} {dst : Option Tmp} {t : TypeId} {A X : Operand} {ty : TypeId} {pos : String} {after : Array Edge} {guard : Option (Nat × Bool)} :
    opVal P C rc ops env ⟨dst, .store t A X, ty, pos, after, guard⟩ = guardM (known P t) (st (tsize P t) (isTmpO X) (ev env A) (ev env X)) := by cases X <;> rfl
set_option maxHeartbeats 1000000 in
theorem un6 {C : CallT} {rc : Option (Option PV)} {ops : Array Oper} {o : Oper} {a : Act} {out : Out PV} (hn : u7i o.op = true) (h : opVal P C rc ops env o H = some out) (hi : Inv g H w) (hT : TOk x g env a.tmps) :
    OpRes x g w (giveUp env (given ops o)) a.tmps o.dst ((execOp a.eval o).run P w) out := by
  obtain ⟨dst, op, ty, pos, after, guard⟩ := o
  cases op with
  | move X =>
    have e : given ops ⟨dst, .move X, ty, pos, after, guard⟩ = srcMv (moves ops ⟨dst, .move X, ty, pos, after, guard⟩) X := by cases X <;> rfl
    rw [e]
    exact uj8 hi hT h
  | assign X =>
    have e : given ops ⟨dst, .assign X, ty, pos, after, guard⟩ = srcMv (moves ops ⟨dst, .assign X, ty, pos, after, guard⟩) X := by cases X <;> rfl
    rw [e]
    exact uj8 hi hT h
  | pick c p q =>
    obtain ⟨v, cv, rfl, e2, e3⟩ := une (P := P) (w := w) h (ev_rep hi hT c) (ev_rep hi hT p) (ev_rep hi hT q)
    refine ⟨cv, w, g, .inl ?_, Glob.refl _ _, hi, hT, fun t _ => e3 _⟩
    simp only [execOp, Sem.run_bind, Sem.run_pure] at e2 ⊢
    generalize hb : (asBool (a.eval c)).run P w = r at e2 ⊢
    cases r with
    | ok b w2 => simp only [Result.andThen_ok, Result.ok.injEq] at e2 ⊢; exact ⟨by rw [e2.1], e2.2⟩
    | halt q w2 => simp [Result.andThen] at e2
  | alloc t =>
    obtain ⟨i, z, h1, h2, h3⟩ := umk h
    have h : al (tzero P t).cells H = some out := h
    rw [h3] at h
    exact (al_ok dst h1 h2 h hi hT).op
  | box t X =>
    have h : (bif fromB ops X then bxO (tsize P t) (ev env X) else bx (tsize P t) (ev env X)) H = some out := h
    cases hfb : fromB ops X with
    | true =>
      rw [hfb] at h
      cases X with
      | tmp s =>
        have e : given ops ⟨dst, .box t (.tmp s), ty, pos, after, guard⟩ = some (s, none) := by
          show (bif fromB ops (.tmp s) then some (s, none) else none) = _
          rw [hfb]; rfl
        rw [e]
        exact (bxO_ok dst h hi hT).op
      | _ => simp [fromB] at hfb
    | false =>
      rw [hfb] at h
      have e : given ops ⟨dst, .box t X, ty, pos, after, guard⟩ = none := by
        cases X with
        | tmp s =>
          show (bif fromB ops (.tmp s) then some (s, none) else none) = _
          rw [hfb]; rfl
        | _ => rfl
      rw [e]
      exact (bx_ok dst h hi hT (ev_rep hi hT X)).op
  | build t ps =>
    unfold opVal at h
    dsimp only at h
    cases hu : P.underlying t with
    | none => rw [hu] at h; exact (u00 (H := H) h).elim
    | some d =>
      rw [hu] at h
      cases d <;> first | (exact (u00 (H := H) h).elim) | skip
      · dsimp only at h
        obtain ⟨h1, h2⟩ := u03 h
        simp only [Bool.and_eq_true] at h1
        have e : given ops ⟨dst, .build t ps, ty, pos, after, guard⟩ = none := by
          show (handB ops ⟨dst, .build t ps, ty, pos, after, guard⟩).map _ = _
          have := h1.2.2
          simp only [Option.isNone_iff_eq_none] at this
          rw [this]; rfl
        rw [e]
        exact ((um6 hu h1.1 h1.2.1 h2 hT hi).valOk hi hT dst).op
      · dsimp only at h
        obtain ⟨h1, h2⟩ := u03 h
        simp only [Bool.and_eq_true] at h1
        rename_i fs
        cases hh : handB ops ⟨dst, .build t ps, ty, pos, after, guard⟩ with
        | none =>
          rw [hh] at h2
          have e : given ops ⟨dst, .build t ps, ty, pos, after, guard⟩ = none := by
            show (handB ops ⟨dst, .build t ps, ty, pos, after, guard⟩).map _ = _
            rw [hh]; rfl
          rw [e]
          exact ((ue6 hu h1.1 h1.2 h2 hT hi).valOk hi hT dst).op
        | some is =>
          obtain ⟨i, s⟩ := is
          rw [hh] at h2
          have e : given ops ⟨dst, .build t ps, ty, pos, after, guard⟩ = some (s, none) := by
            show (handB ops ⟨dst, .build t ps, ty, pos, after, guard⟩).map _ = _
            rw [hh]; rfl
          rw [e]
          dsimp only at h2
          have hps : ps.toList = [(i, .tmp s)] := by
            unfold handB at hh
            dsimp only at hh
            cases hb : boxedB ops dst with
            | false => rw [hb] at hh; cases hh
            | true =>
              rw [hb] at hh
              unfold single at hh
              dsimp only [cond_true] at hh
              split at hh
              · rename_i hl
                simp only [Option.some.injEq, Prod.mk.injEq] at hh
                rw [hl, hh.1, hh.2]
              · cases hh
          cases hf : fs[i]? with
          | none => rw [hf] at h2; exact (u00 (H := H) h2).elim
          | some f =>
            rw [hf] at h2
            exact (uih (d := dst) hps hf hu h1.1 h1.2 h2 hi hT).op
  | buildSlice t n ps =>
    unfold opVal at h
    dsimp only at h
    cases hu : P.underlying t with
    | none => rw [hu] at h; exact (u00 (H := H) h).elim
    | some d =>
      rw [hu] at h
      cases d <;> first | (exact (u00 (H := H) h).elim) | skip
      dsimp only at h
      obtain ⟨h1, h2⟩ := u03 h
      simp only [Bool.and_eq_true, beq_iff_eq, decide_eq_true_eq] at h1
      obtain ⟨q1, q2, q3, i, z, q4, q5, q6, q7, q8⟩ := u6o h1.2.2
      exact (bs_ok (own := dst.isSome) dst (fun t ht => by rw [ht]; rfl) hu q1 q2 h1.2.1 q3 ⟨i, z, q4, q5, q6⟩ h1.1 h2 hi hT).op
  | insert => exact (u00 (H := H) h).elim
  | load t A =>
    have h : guardM (known P t) (ld (tagg P t) (moves ops ⟨dst, .load t A, ty, pos, after, guard⟩) (ev env A)) H = some out := h
    obtain ⟨h1, h2⟩ := u03 h
    cases hm : moves ops ⟨dst, .load t A, ty, pos, after, guard⟩ with
    | false =>
      rw [hm] at h2
      exact ((ufg h1 h2 hi (ev_rep hi hT A)).valOk hi hT dst).op
    | true =>
      rw [hm] at h2
      cases dst with
      | none => simp [moves] at hm
      | some d => exact (ld_mv d h1 h2 hi hT (ev_rep hi hT A)).op
  | store t A X =>
    have e : given ops ⟨dst, .store t A X, ty, pos, after, guard⟩ = srcO X := by cases X <;> rfl
    rw [ujz] at h
    obtain ⟨h1, h2⟩ := u03 h
    rw [e]
    exact (st_ok h1 h2 hi hT).op
  | ready => exact (u00 (H := H) h).elim
  | waits => exact (u00 (H := H) h).elim
  | nilCheck X =>
    rcases nc_ok (g := g) h (ev_rep hi hT X) with ⟨rfl, hr, n1, n2, n3, n4⟩ | ⟨rfl, hu⟩
    · refine ⟨a.eval X, w, g, .inl ?_, Glob.refl _ _, hi, hT, fun t _ => hr _⟩
      show ((match a.eval X with | .pointer none | .nilIface | .nilFunc => _ | .func (.method name) first captured => _ | y => _) : Sem Next).run P w = _
      split
      · rename_i hh; exact absurd hh n1
      · rename_i hh; exact absurd hh n2
      · rename_i hh; exact absurd hh n3
      · rename_i hh; exact absurd hh (n4 _ _ _)
      · rfl
    · refine ⟨_, w, g, ?_, Glob.refl _ _, hi, Grow.refl _ _, u83⟩
      have hx : (execOp a.eval ⟨dst, .nilCheck X, ty, pos, after, guard⟩) = runtimePanic .nilDeref := by
        rcases hu with hu | hu | hu <;> simp only [execOp, hu]
      rw [hx]
      exact u7q
  | binOp b t X Y t2 => exact ((bi_ok (X := X) (Y := Y) h (ev_rep hi hT X) (ev_rep hi hT Y)).valOk hi hT dst).op
  | unOp u t X => exact ((un_ok h (ev_rep hi hT X)).valOk hi hT dst).op
  | convert s t X =>
    have h : cv (cvKind P s t) dst.isSome (ev env X) H = some out := h
    have rX := ev_rep hi hT X
    have key : ValOk P x g w env a.tmps dst (convert s t (a.eval X)) out := by
      unfold cvKind at h
      cases hs : P.underlying s with
      | none => rw [hs] at h; unfold cv at h; exact (u00 (H := H) h).elim
      | some ds =>
        cases ht : P.underlying t with
        | none =>
          rw [hs, ht] at h
          cases ds <;> (unfold cv at h; exact (u00 (H := H) h).elim)
        | some dt =>
          rw [hs, ht] at h
          cases ds <;> first | (cases dt <;> (unfold cv at h; exact (u00 (H := H) h).elim)) | skip
          · -- of a number
            cases dt <;> first | (unfold cv at h; exact (u00 (H := H) h).elim) | skip
            · exact (um4 hs ht h rX).valOk hi hT dst
            · exact (udy hs ht h rX).valOk hi hT dst
          · -- of a text
            cases dt <;> first | (unfold cv at h; exact (u00 (H := H) h).elim) | skip
            · exact (uld hs ht h rX).valOk hi hT dst
            · rename_i e
              dsimp only at h
              cases he : P.underlying e with
              | none => rw [he] at h; unfold cv at h; exact (u00 (H := H) h).elim
              | some de =>
                rw [he] at h
                cases de <;> first | (unfold cv at h; exact (u00 (H := H) h).elim) | skip
                rename_i k
                cases k <;> first | (unfold cv at h; exact (u00 (H := H) h).elim) | skip
                exact uc4 dst hs ht he h hi hT rX
          · -- of a list
            rename_i e
            cases dt <;> first | (unfold cv at h; exact (u00 (H := H) h).elim) | skip
            dsimp only at h
            cases he : P.underlying e with
            | none => rw [he] at h; unfold cv at h; exact (u00 (H := H) h).elim
            | some de =>
              rw [he] at h
              cases de <;> first | (unfold cv at h; exact (u00 (H := H) h).elim) | skip
              rename_i k
              cases k <;> first | (unfold cv at h; exact (u00 (H := H) h).elim) | skip
              exact (uc9 hs he ht h hi rX).valOk hi hT dst
    exact key.op
  | sliceToArrayPointer => exact (u00 (H := H) h).elim
  | makeInterface t X =>
    have h : guardM (u8e P t) (mi t (ev env X)) H = some out := h
    obtain ⟨h1, h2⟩ := u03 h
    exact ((mi_ok h1 h2 (ev_rep hi hT X)).valOk hi hT dst).op
  | makeFunc f first caps =>
    cases f with
    | func f =>
      have h : mf f (first.toList.map (ev env)) (caps.toList.map (ev env)) H = some out := h
      exact ((mf_ok (by simp) (by simp) (ug4 hi hT first) (ug4 hi hT caps) h).valOk hi hT dst).op
    | _ => exact (u00 (H := H) h).elim
  | makeMap => exact (u00 (H := H) h).elim
  | makeChan => exact (u00 (H := H) h).elim
  | makeSlice t l c =>
    unfold opVal at h
    dsimp only at h
    cases hu : P.underlying t with
    | none => rw [hu] at h; exact (u00 (H := H) h).elim
    | some d =>
      rw [hu] at h
      cases d <;> first | (exact (u00 (H := H) h).elim) | skip
      dsimp only at h
      obtain ⟨h1, h2⟩ := u03 h
      exact (mk_ok (own := dst.isSome) dst (fun t ht => by rw [ht]; rfl) hu h1 h2 hi hT (ev_rep hi hT l) (ev_rep hi hT c)).op
  | slice t X lo hi' mx =>
    cases mx with
    | some m => exact (u00 (H := H) h).elim
    | none =>
      unfold opVal at h
      dsimp only at h
      obtain ⟨a1, a2⟩ := ukg hi hT lo
      obtain ⟨b1, b2⟩ := ukg hi hT hi'
      cases hu : P.underlying t with
      | none => rw [hu] at h; exact (u00 (H := H) h).elim
      | some d =>
        rw [hu] at h
        cases d <;> first | (exact (u00 (H := H) h).elim) | skip
        · exact ((ujq hu h (ev_rep hi hT X) a1 a2 b1 b2).valOk hi hT dst).op
        · dsimp only at h
          obtain ⟨h1, h2⟩ := u03 h
          exact ((uls hu h1 h2 (ev_rep hi hT X) a1 a2 b1 b2).valOk hi hT dst).op
        · rename_i n e
          dsimp only at h
          obtain ⟨h1, h2⟩ := u03 h
          simp only [Bool.and_eq_true, beq_iff_eq] at h1
          obtain ⟨k1, k2, k3⟩ := h1
          cases lo with
          | some q => cases k3
          | none => exact (slA_ok dst (fun t ht => by rw [ht]; rfl) hu k2 k1 h2 hi hT (ev_rep hi hT X) b1 b2).op
  | fieldAddr t X f =>
    unfold opVal at h
    dsimp only at h
    cases hu : P.underlying t with
    | none => rw [hu] at h; exact (u00 (H := H) h).elim
    | some d =>
      rw [hu] at h
      cases d <;> first | (exact (u00 (H := H) h).elim) | skip
      rename_i fs
      dsimp only at h
      cases hf : fs[f]? with
      | none => rw [hf] at h; exact (u00 (H := H) h).elim
      | some fl =>
        rw [hf] at h
        dsimp only at h
        obtain ⟨h1, h2⟩ := u03 h
        simp only [Bool.and_eq_true, Bool.not_eq_true'] at h1
        exact ((ueh hu hf h1.1 h1.2 h2 (ev_rep hi hT X)).valOk hi hT dst).op
  | field t X f =>
    unfold opVal at h
    dsimp only at h
    cases hu : P.underlying t with
    | none => rw [hu] at h; exact (u00 (H := H) h).elim
    | some d =>
      rw [hu] at h
      cases d <;> first | (exact (u00 (H := H) h).elim) | skip
      rename_i fs
      dsimp only at h
      cases hf : fs[f]? with
      | none => rw [hf] at h; exact (u00 (H := H) h).elim
      | some fl =>
        rw [hf] at h
        dsimp only at h
        obtain ⟨h1, h2⟩ := u03 h
        exact ((un1 hu hf h1 h2 (ev_rep hi hT X)).valOk hi hT dst).op
  | indexAddr t X i =>
    unfold opVal at h
    dsimp only at h
    cases hu : P.underlying t with
    | none => rw [hu] at h; exact (u00 (H := H) h).elim
    | some d =>
      rw [hu] at h
      cases d <;> first | (exact (u00 (H := H) h).elim) | skip
      all_goals
        dsimp only at h
        obtain ⟨h1, h2⟩ := u03 h
      · exact ((uci hu h1 h2 (ev_rep hi hT X) (ev_rep hi hT i)).valOk hi hT dst).op
      · exact ((ubx hu h1 h2 (ev_rep hi hT X) (ev_rep hi hT i)).valOk hi hT dst).op
  | index t X i =>
    unfold opVal at h
    dsimp only at h
    cases hu : P.underlying t with
    | none => rw [hu] at h; exact (u00 (H := H) h).elim
    | some d =>
      rw [hu] at h
      cases d <;> first | (exact (u00 (H := H) h).elim) | skip
      · exact ((uko hu h (ev_rep hi hT X) (ev_rep hi hT i)).valOk hi hT dst).op
      · dsimp only at h
        obtain ⟨h1, h2⟩ := u03 h
        exact ((ujn hu h1 h2 (ev_rep hi hT X) (ev_rep hi hT i)).valOk hi hT dst).op
  | lookup => exact (u00 (H := H) h).elim
  | mapUpdate => exact (u00 (H := H) h).elim
  | mapEntry => exact (u00 (H := H) h).elim
  | entryStore => exact (u00 (H := H) h).elim
  | range t X =>
    unfold opVal at h
    dsimp only at h
    cases hu : P.underlying t with
    | none => rw [hu] at h; exact (u00 (H := H) h).elim
    | some d =>
      rw [hu] at h
      cases d <;> first | (exact (u00 (H := H) h).elim) | skip
      exact (rg_ok dst hu h hi hT (ev_rep hi hT X)).op
  | next X s =>
    cases s with
    | false => exact (u00 (H := H) h).elim
    | true => exact (nx_ok dst h hi hT (ev_rep hi hT X)).op
  | entry => exact (u00 (H := H) h).elim
  | typeAssert X xt t ok =>
    unfold opVal at h
    dsimp only at h
    cases hu : P.underlying t with
    | none => rw [hu] at h; exact (u00 (H := H) h).elim
    | some d =>
      rw [hu] at h
      have key : (∀ ms, d ≠ .interface ms) → guardM (isVal (tzero P t)) (ta t (tzero P t) ok (ev env X)) H = some out → OpRes x g w env a.tmps dst ((execOp a.eval ⟨dst, .typeAssert X xt t ok, ty, pos, after, guard⟩).run P w) out := by
        intro hd h
        obtain ⟨h1, h2⟩ := u03 h
        obtain ⟨i, z, hi1, hz, he⟩ := u5w h1
        have hr : Rep g.ι g.im (tzero P t) z := by
          rw [he] at h1 ⊢
          have := u8t h1 (u8v (g := g) z .res)
          have e : stripC (ofV z) = ofV z := by
            generalize hq : ofV z = q
            cases q <;> first | rfl | skip
            rename_i o zz sz xs
            unfold ofV at hq
            split at hq
            · split at hq <;> cases hq
            · rename_i f aa bb
              cases hab : (aa.size == 0 && bb.size == 0) <;> rw [hab] at hq <;> simp at hq
            · unfold ofVC at hq
              split at hq <;> simp at hq
              obtain ⟨rfl, _⟩ := hq
              rfl
          rwa [e] at this
        exact ((ta_ok hu hd hi1 hz hr h2 (ev_rep hi hT X)).valOk hi hT dst).op
      cases d <;> first | (exact key (by simp) h) | (exact (u00 (H := H) h).elim)
  | extract X i =>
    have e : given ops ⟨dst, .extract X i, ty, pos, after, guard⟩ = srcEx i X := by cases X <;> rfl
    rw [e]
    exact uj0 hi hT h
  | call c =>
    obtain ⟨callee, args, tys⟩ := c
    cases callee with
    | value f => exact absurd hn (by simp [u7i])
    | invoke r m => exact (u00 (H := H) h).elim
    | builtin b =>
      by_cases hb : b = .recover
      · subst hb
        exact absurd hn (by simp [u7i])
      have h2 : u6y P dst.isSome b tys (args.toList.map (ev env)) H = some out := by
        cases b <;> first | exact h | exact absurd rfl hb
      have hg : given ops ⟨dst, .call ⟨.builtin b, args, tys⟩, ty, pos, after, guard⟩ = if b = .append then (match (args[0]? : Option Operand) with | some (.tmp s) => some (s, none) | _ => none) else none := by
        cases b <;> rfl
      rw [hg]
      have hone : ∀ {y : PV}, args.toList.map (ev env) = [y] → ∃ X, args = #[X] ∧ y = ev env X := by
        intro y hy
        cases hl : args.toList with
        | nil => rw [hl] at hy; simp at hy
        | cons X r =>
          rw [hl] at hy
          simp only [List.map_cons, List.cons.injEq, List.map_eq_nil_iff] at hy
          obtain ⟨h1, rfl⟩ := hy
          exact ⟨X, Array.ext' hl, h1.symm⟩
      have htwo : ∀ {y z : PV}, args.toList.map (ev env) = [y, z] → ∃ X Z, args = #[X, Z] ∧ y = ev env X ∧ z = ev env Z := by
        intro y z hy
        cases hl : args.toList with
        | nil => rw [hl] at hy; simp at hy
        | cons X r =>
          rw [hl] at hy
          cases r with
          | nil => simp at hy
          | cons Z r =>
            simp only [List.map_cons, List.cons.injEq, List.map_eq_nil_iff] at hy
            obtain ⟨h1, h3, rfl⟩ := hy
            exact ⟨X, Z, Array.ext' hl, h1.symm, h3.symm⟩
      generalize hl : args.toList.map (ev env) = l at h2
      cases b <;> first | (exact (u00 (H := H) h2).elim) | skip
      case len =>
        rcases l with _ | ⟨y, _ | ⟨z, l⟩⟩ <;> first | (exact (u00 (H := H) h2).elim) | skip
        have hy := hl
        unfold u6y at h2
        dsimp only at h2
        obtain ⟨X, rfl, rfl⟩ := hone hy
        rw [if_neg (by simp)]
        have hx2 : (execOp a.eval ⟨dst, .call ⟨.builtin .len, #[X], tys⟩, ty, pos, after, guard⟩) = (do pure (.value (← Builtin.len_ tys ty #[a.eval X])) : Sem Next) := by
          have e : #[X].map a.eval = #[a.eval X] := by simp
          rw [← e]
          rfl
        rw [hx2]
        cases ht0 : tys[0]? with
        | none => rw [ht0] at h2; exact (u00 (H := H) h2).elim
        | some t =>
          rw [ht0] at h2
          simp only [Option.bind_some] at h2
          cases hu : P.underlying t with
          | none => rw [hu] at h2; exact (u00 (H := H) h2).elim
          | some d =>
            rw [hu] at h2
            cases d <;> first | (exact (u00 (H := H) h2).elim) | skip
            · exact ((lnS_ok (tys := tys) (ty := ty) ht0 hu h2 (ev_rep hi hT X)).valOk hi hT dst).op
            · exact ((lnL_ok (tys := tys) (ty := ty) ht0 hu h2 (ev_rep hi hT X)).valOk hi hT dst).op
            · rename_i n e
              exact ((u0d (P := P) (s := Builtin.len_ tys ty #[a.eval X]) (cv := .int .i64 n) h2 (by simp [Builtin.len_, ht0, run_underlying hu, goInt]) (fun L => rInt _ _ L)).valOk hi hT dst).op
      case append =>
        rcases l with _ | ⟨y, _ | ⟨z, _ | ⟨z2, l⟩⟩⟩ <;> first | (exact (u00 (H := H) h2).elim) | skip
        have hy := hl
        unfold u6y at h2
        dsimp only at h2
        obtain ⟨X, Z, rfl, rfl, rfl⟩ := htwo hy
        rw [if_pos rfl]
        have hx2 : (execOp a.eval ⟨dst, .call ⟨.builtin .append, #[X, Z], tys⟩, ty, pos, after, guard⟩) = (do pure (.value (← Builtin.append_ tys ty #[a.eval X, a.eval Z])) : Sem Next) := by
          have e : #[X, Z].map a.eval = #[a.eval X, a.eval Z] := by simp
          rw [← e]
          rfl
        rw [hx2]
        have hsrc : (match (#[X, Z][0]? : Option Operand) with | some (.tmp s) => some (s, none) | _ => (none : Option (Tmp × Option Nat))) = srcO X := by cases X <;> rfl
        rw [hsrc]
        cases ht0 : tys[0]? with
        | none => rw [ht0] at h2; exact (u00 (H := H) h2).elim
        | some t =>
          cases ht1 : tys[1]? with
          | none =>
            rw [ht0, ht1] at h2
            simp only [Option.bind_some, Option.bind_none] at h2
            cases hu : P.underlying t with
            | none => rw [hu] at h2; exact (u00 (H := H) h2).elim
            | some d => rw [hu] at h2; cases d <;> exact (u00 (H := H) h2).elim
          | some u =>
            rw [ht0, ht1] at h2
            simp only [Option.bind_some] at h2
            cases hu : P.underlying t with
            | none => rw [hu] at h2; exact (u00 (H := H) h2).elim
            | some d =>
              rw [hu] at h2
              cases hu1 : P.underlying u with
              | none => rw [hu1] at h2; cases d <;> exact (u00 (H := H) h2).elim
              | some d1 =>
                rw [hu1] at h2
                have key : ∀ e, d = .slice e → (∀ k, d1 ≠ .int k) → guardM (listOk P e) (ap dst.isSome (tsize P e) (tbytes P e) (ev env X) (ev env Z)) H = some out →
                    OpRes x g w (giveUp env (srcO X)) a.tmps dst (((do pure (.value (← Builtin.append_ tys ty #[a.eval X, a.eval Z])) : Sem Next)).run P w) out := by
                  intro e he hk h3
                  subst he
                  obtain ⟨q1, q2⟩ := u03 h3
                  have hap := ap_ok (t := t) (u := u) (ty := ty) (A := X) (B := Z) (own := dst.isSome) dst (fun t ht => by rw [ht]; rfl) hu ⟨d1, hu1, hk⟩ q1 q2 hi hT
                  have htys : Builtin.append_ tys ty #[a.eval X, a.eval Z] = Builtin.append_ #[t, u] ty #[a.eval X, a.eval Z] := by
                    unfold Builtin.append_
                    rw [ht0, ht1]
                    rfl
                  rw [htys]
                  exact hap.op
                cases d <;> first | (exact (u00 (H := H) h2).elim) | skip
                cases d1 <;> first | (exact (u00 (H := H) h2).elim) | (exact key _ rfl (by simp) h2)
      case min =>
        rcases l with _ | ⟨y, _ | ⟨z, _ | ⟨z2, l⟩⟩⟩ <;> first | (exact (u00 (H := H) h2).elim) | skip
        obtain ⟨X, Z, rfl, rfl, rfl⟩ := htwo hl
        rw [if_neg (by simp)]
        have hx2 : (execOp a.eval ⟨dst, .call ⟨.builtin .min, #[X, Z], tys⟩, ty, pos, after, guard⟩) = (do pure (.value (← Builtin.min_ tys ty #[a.eval X, a.eval Z])) : Sem Next) := by
          have e : #[X, Z].map a.eval = #[a.eval X, a.eval Z] := by simp
          rw [← e]
          rfl
        rw [hx2]
        exact ((mn_ok (tys := tys) (ty := ty) h2 (ev_rep hi hT X) (ev_rep hi hT Z)).valOk hi hT dst).op
      case max =>
        rcases l with _ | ⟨y, _ | ⟨z, _ | ⟨z2, l⟩⟩⟩ <;> first | (exact (u00 (H := H) h2).elim) | skip
        obtain ⟨X, Z, rfl, rfl, rfl⟩ := htwo hl
        rw [if_neg (by simp)]
        have hx2 : (execOp a.eval ⟨dst, .call ⟨.builtin .max, #[X, Z], tys⟩, ty, pos, after, guard⟩) = (do pure (.value (← Builtin.max_ tys ty #[a.eval X, a.eval Z])) : Sem Next) := by
          have e : #[X, Z].map a.eval = #[a.eval X, a.eval Z] := by simp
          rw [← e]
          rfl
        rw [hx2]
        exact ((mx_ok (tys := tys) (ty := ty) h2 (ev_rep hi hT X) (ev_rep hi hT Z)).valOk hi hT dst).op
      case panic =>
        rcases l with _ | ⟨y, _ | ⟨z, l⟩⟩ <;> first | (exact (u00 (H := H) h2).elim) | skip
        have h2 : pn y H = some out := h2
        obtain ⟨X, rfl, rfl⟩ := hone hl
        rw [if_neg (by simp)]
        have rX := ev_rep hi hT X
        cases hp : ev env X with
        | iface t v =>
          rw [hp] at h2 rX
          obtain ⟨u, hu, hr⟩ := rX.iface
          have h2 : M.pan (.iface t v) H = some out := h2
          simp only [M.pan, Option.some.injEq] at h2
          subst h2
          refine ⟨.iface t u, w, g, ?_, Glob.refl _ _, hi, Grow.refl _ _, .iface hr⟩
          have : (execOp a.eval ⟨dst, .call ⟨.builtin .panic, #[X], tys⟩, ty, pos, after, guard⟩) = (do pure (.value (← Instr.panic (a.eval X))) : Sem Next) := by
            have e : #[X].map a.eval = #[a.eval X] := by simp
            have e2 : (execOp a.eval ⟨dst, .call ⟨.builtin .panic, #[X], tys⟩, ty, pos, after, guard⟩) = (do pure (.value (← Instr.panic ((#[X].map a.eval).getD 0 .nilIface))) : Sem Next) := rfl
            rw [e2, e]
            rfl
          rw [this, hu]
          simp [Instr.panic]
        | _ => (rw [hp] at h2; unfold pn at h2; exact (u00 (H := H) h2).elim)
  | go => exact (u00 (H := H) h).elim
  | defer => exact absurd hn (by simp [u7i])
  | panic X =>
    have h : pn (ev env X) H = some out := h
    have rX := ev_rep hi hT X
    cases hp : ev env X with
    | iface t v =>
      rw [hp] at h rX
      obtain ⟨u, hu, hr⟩ := rX.iface
      have h : M.pan (.iface t v) H = some out := h
      simp only [M.pan, Option.some.injEq] at h
      subst h
      refine ⟨.iface t u, w, g, ?_, Glob.refl _ _, hi, Grow.refl _ _, .iface hr⟩
      have : (execOp a.eval ⟨dst, .panic X, ty, pos, after, guard⟩) = (do pure (.value (← Instr.panic (a.eval X))) : Sem Next) := rfl
      rw [this, hu]
      simp [Instr.panic]
    | _ => (rw [hp] at h; unfold pn at h; exact (u00 (H := H) h).elim)
  | send => exact (u00 (H := H) h).elim
  | recv => exact (u00 (H := H) h).elim
  | select => exact (u00 (H := H) h).elim
end Go.Proofs.YtiiepllnnjjmaaaDoor.Pi
namespace Go.Proofs.YtiiepllnnjjmaaaDoor.Pi
variable {P : Program} {g : G} {L L' : Owner} {w w' : World} {H : Heap} {x : Nat} {env : Env}
structure ArgsOk (g : G) (ps : List PV) (vs : Array Value) : Prop where
  size : vs.size = ps.length
  rep : ∀ (j : Nat) (p : PV) (v : Value), ps[j]? = some p → vs[j]? = some v → RepT g .dead p v ∧ strip p = p
theorem RepT.still {p : PV} {v : Value} (h : RepT g L p v) (hs : Pi.strip p = p) {g' : G} (hι : ∀ (i b : Nat), g.ι[i]? = some b → g'.ι[i]? = some b) (him : ∀ b o v, g.im b o = some v → g'.im b o = some v) (L' : Owner) : RepT g' L' p v := by
  have one : ∀ {p : PV} {v : Value} {M M' : Owner}, RepS g M p v → Pi.stripC p = p → RepS g' M' p v := by
    intro p v M M' h hs
    cases h with
    | undef => exact .undef _
    | pure h => exact .pure (h.mono hι him)
    | own => simp [Pi.stripC] at hs
  cases h with
  | one h =>
    refine .one ?_
    cases p with
    | tup ps => cases h with
      | pure h => cases h with
        | flat h => cases h
    | slice o z sz xs => exact one h (by simpa [Pi.strip, Pi.stripC] using hs)
    | _ => exact one h rfl
  | tup h1 r =>
    rename_i ps vs
    refine .tup h1 fun j q u a b => one (r j q u a b) ?_
    have : ps.map Pi.stripC = ps := by simpa [Pi.strip] using hs
    have h2 : (ps.map Pi.stripC)[j]? = some q := by rw [this]; exact a
    rw [List.getElem?_map, a] at h2
    simpa using h2
  | aggo h1 hc r => simp [Pi.strip] at hs
theorem ArgsOk.mono {ps : List PV} {vs : Array Value} (h : ArgsOk g ps vs) {g' : G} (hι : ∀ (i b : Nat), g.ι[i]? = some b → g'.ι[i]? = some b) (him : ∀ b o v, g.im b o = some v → g'.im b o = some v) : ArgsOk g' ps vs :=
  ⟨h.size, fun j p v a b => let ⟨r, s⟩ := h.rep j p v a b; ⟨r.still s hι him _, s⟩⟩
theorem u8n (p : PV) : strip (strip p) = strip p := by
  cases p with
  | tup ps => simp only [strip, List.map_map, PV.tup.injEq]; apply List.map_congr_left; intro q _; exact u40 q
  | _ => rfl
def u3n (g : G) (w : World) (out : Out PV) (e : Ending) (w' : World) : Prop :=
  ∃ g', Glob g w g' w' ∧ Grow u4f g g' ∧ match out with
    | .ok v H' => ∃ cv, e = .returned cv ∧ Inv g' H' w' ∧ RepT g' .res v cv
    | .pan v H' => ∃ cv, e = .panicked [{ v := cv, recovered := false }] ∧ Inv g' H' w' ∧ Rep g'.ι g'.im v cv
def u41 (P : Program) (f : FuncId) : Bool :=
  match P.funcs[f]? with
  | some fn => fn.name != "runtime.NumGoroutine" && fn.body.isSome
  | none => false
def CSound (P : Program) (C : CallT) : Prop :=
  ∀ f args H out, C f args H = some out → u41 P f = true ∧ ∀ g w cargs, Inv g H w → ArgsOk g args cargs → Calls P f cargs w (u3n g w out)
def ModeOk (g : G) : Option PV → FrameMode → Prop
  | none, u => u = .returning
  | some p, u => ∃ cv, u = .panicking [{ v := cv, recovered := false }] ∧ Rep g.ι g.im p cv
def u2y (v : PV) (u : FrameMode) : FrameMode :=
  match v, u with
  | .tup [], .panicking [{ v, .. }] => .panicking [{ v, recovered := true }]
  | _, u => u
def ufi (P : Program) (CD : Option PV → CallT) : Prop :=
  ∀ rv f args H out, CD rv f args H = some out → u41 P f = true ∧ ∃ v H', out = .ok v H' ∧ ∀ g w cargs u, Inv g H w → ArgsOk g args cargs → ModeOk g rv u →
    CallsD P f cargs u w fun e u' w' => ∃ g' cv, Glob g w g' w' ∧ Grow u4f g g' ∧ e = .returned cv ∧ Inv g' H' w' ∧ u' = u2y v u
def upF : Owner → Owner
  | .cell i o => .cell i o
  | L => .up L
def downF : Owner → Owner
  | .cell i o => .cell i o
  | .up L => L
  | .res => .res
  | .sub .res j => .sub .res j
  | _ => .dead
theorem upF_up {L : Owner} (h : u4f L) : upF L = .up L := by cases L <;> first | rfl | exact h.elim
theorem out_of {g1 : G} {w1 : World} {n : Nat} (hgl : Glob (g.ren upF) w g1 w1) (hn : g.ι.length ≤ n) :
    let g2 : G := { (g1.ren downF) with ι := g1.ι.take n }
    Glob g w g2 w1 ∧ Grow u4f g g2 := by
  intro g2
  have hι : ∀ (i b : Nat), g.ι[i]? = some b → g2.ι[i]? = some b := by
    intro i b hb
    have hi : i < g.ι.length := (List.getElem?_eq_some_iff.mp hb).1
    show (g1.ι.take n)[i]? = some b
    rw [List.getElem?_take, if_pos (by omega)]
    exact hgl.up.ι i b hb
  have how : ∀ (b : Nat) (L : Owner) (s : Nat), u4f L → g.ow b = some (L, s) → g2.ow b = some (L, s) ∧ ∀ o, g.im b o = none → g2.im b o = none := by
    intro b L s hL hb
    have h1 : (g.ren upF).ow b = some (.up L, s) := by rw [ren_ow hb, upF_up hL]
    obtain ⟨h2, h3⟩ := hgl.up.ow b (.up L) s True.intro h1
    refine ⟨?_, h3⟩
    show (g1.ren downF).ow b = _
    rw [ren_ow h2]
    rfl
  refine ⟨⟨hgl.os, hgl.tape, hgl.output, hgl.size, fun b hb h1 h2 => ?_, ⟨hι, hgl.up.im, fun b L s hL hb => how b L s (by cases L <;> first | exact hL.elim | exact True.intro) hb⟩⟩, ⟨hι, hgl.up.im, how⟩⟩
  obtain ⟨a1, a2, a3⟩ := hgl.old b hb (ren_none.mpr h1) h2
  exact ⟨ren_none.mpr a1, fun hm => a2 (List.mem_of_mem_take hm), a3⟩
theorem Rep.low {ι : List Nat} {im : Nat → Nat → Option Value} {n : Nat} {p : PV} {v : Value} (h : Rep ι im p v) : p.low n = true → Rep (ι.take n) im p v := by
  induction h with
  | flat h => exact fun _ => .flat h
  | ptr h =>
    intro hl
    refine .ptr ?_
    simp [PV.low] at hl
    rw [List.getElem?_take, if_pos hl]
    exact h
  | elem vs a b => exact fun _ => .elem vs a b
  | fn h1 h2 _ _ ih1 ih2 =>
    intro hl
    simp only [PV.low, Bool.and_eq_true] at hl
    exact .fn h1 h2 (fun j c v a b => ih1 j c v a b (u2x hl.1 j c a)) (fun j c v a b => ih2 j c v a b (u2x hl.2 j c a))
  | iface _ ih =>
    intro hl
    simp only [PV.low] at hl
    exact .iface (ih hl)
  | agg h1 hc _ ih =>
    intro hl
    simp only [PV.low] at hl
    exact .agg h1 hc (fun j c v a b => ih j c v a b (u2x hl j c a))
theorem RepS.low {p : PV} {v : Value} {n : Nat} (h : RepS g L p v) (hl : p.low n = true) : RepS { g with ι := g.ι.take n } L p v := by
  cases h with
  | undef => exact .undef _
  | pure h => exact .pure (h.low hl)
  | own vs hc hsz him hr how hs hroom => exact .own vs hc hsz him hr how hs hroom
theorem RepT.lowT {p : PV} {v : Value} {n : Nat} (h : RepT g L p v) (hl : p.low n = true) : RepT { g with ι := g.ι.take n } L p v := by
  cases h with
  | one h => exact .one (h.low hl)
  | tup h1 r =>
    simp only [PV.low] at hl
    exact .tup h1 fun j q u a b => (r j q u a b).low (u2x hl j q a)
  | aggo h1 hc r =>
    simp only [PV.low] at hl
    exact .aggo h1 hc fun j q u a b => (r j q u a b).low (u2x hl j q a)
theorem Inv.take {n : Nat} (h : Inv g H w) (hn : n ≤ H.length) : Inv { g with ι := g.ι.take n } (H.take n) w := by
  refine ⟨by simp [h.len], fun i j b hi hj => ?_, h.im, h.ow, fun id b y hb hy => ?_, h.gl⟩
  · rw [List.getElem?_take] at hi hj
    split at hi
    · split at hj
      · exact h.nd i j b hi hj
      · cases hj
    · cases hi
  · rw [List.getElem?_take] at hb hy
    split at hb
    · rename_i hid
      rw [if_pos hid] at hy
      have := h.box id b y hb hy
      cases y with
      | cells cs =>
        obtain ⟨h1, h2, vs, T, h3, h4, h5⟩ := this
        exact ⟨h1, h2, vs, T, h3, h4, fun o c v hc hv => let ⟨a, b, l⟩ := h5 o c v hc hv; ⟨a.low (u5y (by omega) c l), b, l⟩⟩
      | iter s pos => exact this
      | dead => exact this
    · cases hb
end Go.Proofs.YtiiepllnnjjmaaaDoor.Pi
namespace Go.Proofs.YtiiepllnnjjmaaaDoor.Pi
variable {g : G} {L L' : Owner} {w w' : World} {H : Heap} {x : Nat} {env : Env}
structure Dfr where
  f : FuncId
  args : List PV
  res : M PV
def dstep (CD : Option PV → CallT) (d : Dfr) : Out PV → Option (Out PV)
  | .ok _ H => M.bind (CD none d.f d.args) (fun _ => d.res) H
  | .pan v H => M.bind (CD (some v) d.f d.args) (fun r => match r with | .tup [] => d.res | _ => M.fail) H
def unw (CD : Option PV → CallT) : List Dfr → Out PV → Option (Out PV)
  | [], o => some o
  | d :: Δ, o => (dstep CD d o).bind (unw CD Δ)
def DefsOk (c : Ctx) (g : G) (env : Env) : List Dfr → List Deferred → Prop
  | [], [] => True
  | d :: Δ, δ :: ds => (∃ cap cargs, δ = { target := .fn (.func d.f) cap, args := cargs } ∧ ArgsOk g d.args (cargs ++ cap)) ∧
      (c.prot ≠ [] ∧ ∃ ed, d.res = c.res ed ∧ ∀ t ∈ c.prot, ∃ id off, ed.getD t .undef = .ptr id off ∧ env.getD t .undef = .ptr id off) ∧ DefsOk c g env Δ ds
  | _, _ => False
theorem DefsOk.step {c : Ctx} {g' : G} {env' : Env} (hι : ∀ (i b : Nat), g.ι[i]? = some b → g'.ι[i]? = some b) (him : ∀ b o v, g.im b o = some v → g'.im b o = some v)
    (he : ∀ t ∈ c.prot, ∀ id off, env.getD t .undef = .ptr id off → env'.getD t .undef = .ptr id off) : ∀ {Δ : List Dfr} {ds : List Deferred}, DefsOk c g env Δ ds → DefsOk c g' env' Δ ds
  | [], [], _ => True.intro
  | d :: Δ, δ :: ds, ⟨⟨cap, cargs, h1, h2⟩, ⟨hne, ed, h3, h4⟩, h5⟩ => ⟨⟨cap, cargs, h1, h2.mono hι him⟩, ⟨hne, ed, h3, fun t ht => let ⟨id, off, a, b⟩ := h4 t ht; ⟨id, off, a, he t ht id off b⟩⟩, DefsOk.step hι him he h5⟩
def xOf (rc : Option (Option PV)) : Nat := if rc.isSome then 1 else 0
structure Sta (c : Ctx) (g : G) (H : Heap) (env : Env) (a : Act) (w : World) (Δ : List Dfr) : Prop where
  inv : Inv g H w
  tok : TOk (xOf c.rc) g env a.tmps
  defs : DefsOk c g env Δ a.defers
theorem u3o (env : Env) (s t : Nat) (v : PV) : (env.set s v).getD t .undef = if s = t ∧ s < env.length then v else env.getD t .undef := by
  simp only [List.getD_eq_getElem?_getD, List.getElem?_set]
  by_cases h : s = t
  · subst h
    by_cases h2 : s < env.length
    · simp [h2]
    · simp [h2, List.getElem?_eq_none (Nat.le_of_not_lt h2)]
  · simp [h]
theorem u69 {t : Nat} {id off : Nat} (s : Option (Tmp × Option Nat)) (h : env.getD t .undef = .ptr id off) : (giveUp env s).getD t .undef = .ptr id off := by
  unfold giveUp
  split
  · rw [u3o]
    split
    · rename_i hh
      rw [hh.1, h]
      rfl
    · exact h
  · rw [u3o]
    split
    · rename_i hh
      rw [hh.1, h]
      rfl
    · exact h
  · exact h
def Leaf (CDN : Option PV → CallT) (c : Ctx) (g0 : G) (w0 : World) (out : Out PV) (k : Env → M PV) (Q : Act → World → Prop) : Prop :=
  ∀ Δ o g H env a w, k env H = some o → unw CDN Δ o = some out → Glob g0 w0 g w → Sta c g H env a w Δ → Q a w
def ua3 (CDN : Option PV → CallT) (c : Ctx) (g0 : G) (w0 : World) (out : Out PV) (Q : List PanicEntry → Act → World → Prop) : Prop :=
  ∀ Δ v H g env a w cv, unw CDN Δ (.pan v H) = some out → Glob g0 w0 g w → Sta c g H env a w Δ → Rep g.ι g.im v cv → Q [{ v := cv, recovered := false }] a w
theorem uns {c : Ctx} {ops : Array Oper} {o : Oper} {v : PV} {t : Nat} {id off : Nat} (hr : c.rc.isSome = false ∨ u08 o = false) (hd : okDst c.rc.isSome c.prot env o.dst = true) (ht : t ∈ c.prot) (he : env.getD t .undef = .ptr id off) :
    (put c.rc ops env o v).getD t .undef = .ptr id off := by
  have htook : took c.rc o (giveUp env (given ops o)) = giveUp env (given ops o) := by
    unfold took
    rcases hr with hr | hr <;> simp [hr]
  unfold Pi.put
  rw [htook]
  cases hdst : o.dst with
  | none => exact u69 _ he
  | some d =>
    rw [hdst] at hd
    unfold okDst at hd
    simp only [Bool.and_eq_true, Bool.or_eq_true, Bool.not_eq_true', decide_eq_true_eq] at hd
    have hne : d ≠ t := by
      intro e
      subst e
      rcases hd.1 with h1 | h1
      · exact absurd (List.contains_iff_mem.mpr ht) (by rw [h1]; simp)
      · rw [he] at h1
        simp [u9y] at h1
    show ((giveUp env (given ops o)).set d v).getD t .undef = _
    rw [u3o, if_neg (fun h => hne h.1)]
    exact u69 _ he
theorem Sta.put {c : Ctx} {g' : G} {H' : Heap} {a : Act} {Δ : List Dfr} {o : Oper} {ops : Array Oper} {v : PV} {cv : Value} (h : Sta c g H env a w Δ) (hr : c.rc.isSome = false ∨ u08 o = false) (hd : okDst c.rc.isSome c.prot env o.dst = true)
    (hi : Inv g' H' w') (ht : TOk (xOf c.rc) g' (giveUp env (given ops o)) a.tmps) (hv : ∀ t, o.dst = some t → RepT g' (.tmp t) v cv)
    (hι : ∀ (i b : Nat), g.ι[i]? = some b → g'.ι[i]? = some b) (him : ∀ b o v, g.im b o = some v → g'.im b o = some v) : Sta c g' H' (put c.rc ops env o v) (a.put o.dst cv) w' Δ := by
  have htook : took c.rc o (giveUp env (given ops o)) = giveUp env (given ops o) := by
    unfold took
    rcases hr with hr | hr <;> simp [hr]
  unfold Pi.put
  rw [htook]
  cases hdst : o.dst with
  | none =>
    exact ⟨hi, ht, h.defs.step hι him (fun t _ id off he => u69 _ he)⟩
  | some d =>
    rw [hdst] at hd
    unfold okDst at hd
    simp only [Bool.and_eq_true, Bool.or_eq_true, Bool.not_eq_true', decide_eq_true_eq] at hd
    have hd1 : xOf c.rc = 0 ∨ d + 1 < (giveUp env (given ops o)).length := by
      rw [u37]
      rcases hd.2 with h1 | h1
      · exact .inl (by simp [xOf, h1])
      · exact .inr h1
    refine ⟨hi, ht.put hd1 (hv d hdst), h.defs.step hι him (fun t ht' id off he => ?_)⟩
    have hne : d ≠ t := by
      intro e
      subst e
      rcases hd.1 with h1 | h1
      · exact absurd (List.contains_iff_mem.mpr ht') (by rw [h1]; simp)
      · rw [he] at h1
        simp [u9y] at h1
    show ((giveUp env (given ops o)).set d v).getD t .undef = _
    rw [u3o, if_neg (fun h => hne h.1)]
    exact u69 _ he
end Go.Proofs.YtiiepllnnjjmaaaDoor.Pi
namespace Go.Proofs.YtiiepllnnjjmaaaDoor.Pi
variable {g : G} {L L' : Owner} {w w' : World} {H : Heap} {x : Nat} {env : Env}
theorem Rep.strip {ι : List Nat} {im : Nat → Nat → Option Value} {p : PV} {v : Value} (h : Rep ι im p v) : Pi.strip p = p := by
  cases h with
  | flat h => cases h <;> rfl
  | _ => rfl
def resTo (d : Nat) : Owner → Owner
  | .res => .tmp d
  | .sub .res j => .sub (.tmp d) j
  | M => M
theorem u85 {P : Program} {f : FuncId} {args : Array Value} (h : u41 P f = true) : (callFunc f args).run P w = .ok (.enter f args) w := by
  unfold u41 at h
  cases hf : P.funcs[f]? with
  | none => rw [hf] at h; simp at h
  | some fn =>
    rw [hf] at h
    simp only [Bool.and_eq_true, bne_iff_ne, ne_eq] at h
    obtain ⟨h1, h2⟩ := h
    have h3 : fn.body.isNone = false := by cases hb : fn.body <;> simp [hb] at h2 ⊢
    have h4 : (fn.name == "runtime.NumGoroutine") = false := by simpa using h1
    simp only [callFunc, Sem.run_bind, run_program, Result.andThen_ok, hf]
    rw [h4, h3]
    rfl
theorem unf {c : Ctx} {a : Act} {ops : Array Oper} {o : Oper} {f : Operand} {args : Array Operand} {tys : Array TypeId} {Δ : List Dfr} {out1 : Out PV} {next : Act → World → Prop} {Q : Exit → Act → World → Prop}
    (hC : CSound c.P c.C) (hop : o.op = .call ⟨.value f, args, tys⟩) (hS : Sta c g H env a w Δ) (hd : okDst c.rc.isSome c.prot env o.dst = true)
    (h : callV c.P c.C (ev env f) (args.toList.map fun y => strip (ev env y)) H = some out1)
    (hok : ∀ v H1 g' a' w', out1 = .ok v H1 → Glob g w g' w' → Sta c g' H1 (put c.rc ops env o v) a' w' Δ → next a' w')
    (hpan : ∀ v H1 g' w' cv, out1 = .pan v H1 → Glob g w g' w' → Sta c g' H1 env a w' Δ → Rep g'.ι g'.im v cv → Q (.panic [{ v := cv, recovered := false }]) a w') :
    o.wp c.P a w next Q := by
  have rf := ev_rep hS.inv hS.tok f
  have hgiv : given ops o = none := by
    obtain ⟨dst, op, ty, pos, after, guard⟩ := o
    simp only at hop
    subst hop
    rfl
  have hrec : u08 o = false := by
    unfold u08
    rw [hop]
  have hexe : execOp a.eval o = (do let d ← Deferred.ofValue (a.eval f) (args.map a.eval); invoke d.target d.args) := by
    unfold execOp
    rw [hop]
    rfl
  cases hfv : ev env f with
  | fn fid first caps =>
    rw [hfv] at h rf
    obtain ⟨fv, cv, hfe, h1, h2, h3, h4⟩ := rf.fn
    have h : c.C fid (first ++ (args.toList.map fun y => strip (ev env y)) ++ caps) H = some out1 := h
    obtain ⟨hcal, hcs⟩ := hC _ _ _ _ h
    have hrun : (execOp a.eval o).run c.P w = .ok (.enter fid (fv ++ args.map a.eval ++ cv)) w := by
      rw [hexe, hfe]
      simp only [Deferred.ofValue, Sem.run_bind, Sem.run_pure, Result.andThen_ok, invoke, u85 hcal]
    have hargs : ArgsOk g (first ++ (args.toList.map fun y => strip (ev env y)) ++ caps) (fv ++ args.map a.eval ++ cv) := by
      refine ⟨by simp [h1, h2], fun j p v hp hv => ?_⟩
      have hsz1 : (fv ++ args.map a.eval).size = (first ++ (args.toList.map fun y => strip (ev env y))).length := by simp [h1]
      by_cases hj : j < (first ++ (args.toList.map fun y => strip (ev env y))).length
      · rw [List.getElem?_append_left hj] at hp
        rw [Array.getElem?_append_left (by omega)] at hv
        by_cases hj2 : j < first.length
        · rw [List.getElem?_append_left hj2] at hp
          rw [Array.getElem?_append_left (by omega)] at hv
          have := h3 j p v hp hv
          exact ⟨rT this _, this.strip⟩
        · rw [List.getElem?_append_right (by omega)] at hp
          rw [Array.getElem?_append_right (by omega)] at hv
          simp only [List.getElem?_map, Option.map_eq_some_iff] at hp
          obtain ⟨y, hy, rfl⟩ := hp
          rw [h1] at hv
          simp only [Array.getElem?_map, Option.map_eq_some_iff] at hv
          obtain ⟨y', hy', rfl⟩ := hv
          have : y = y' := by
            rw [Array.getElem?_toList] at hy
            rw [hy] at hy'
            exact Option.some.inj hy'
          subst this
          exact ⟨(ev_rep hS.inv hS.tok y).strip, u8n _⟩
      · rw [List.getElem?_append_right (by omega)] at hp
        rw [Array.getElem?_append_right (by omega)] at hv
        rw [hsz1] at hv
        have := h4 _ p v hp hv
        exact ⟨rT this _, this.strip⟩
    unfold Oper.wp
    rw [hrun, Oper.upon_enter]
    refine (hcs g w _ hS.inv hargs).mono ?_
    rintro e w1 ⟨g1, hgl, hgr, hpost⟩
    cases out1 with
    | ok v H1 =>
      obtain ⟨cv, rfl, hi1, hr1⟩ := hpost
      -- what the call handed back is taken over
      have hg2 : Glob g w (g1.ren (resTo (o.dst.getD 0))) w1 := hgl.trans (u36 (fun M => rfl))
      have ht1 : TOk (xOf c.rc) g1 env a.tmps := hS.tok.mono hgr (fun M hM => by cases M <;> first | exact True.intro | exact hM.elim)
      have ht2 : TOk (xOf c.rc) (g1.ren (resTo (o.dst.getD 0))) env a.tmps := u8a (fun _ => rfl) (fun _ _ => rfl) ht1
      refine hok v H1 _ _ w1 rfl hg2 (hS.put (.inr hrec) hd (hi1.ren (fun _ _ => rfl)) (by rw [hgiv]; exact ht2) (fun t ht => ?_) hgr.ι hgr.im)
      rw [ht]
      exact hr1.ren rfl (fun j => rfl)
    | pan v H1 =>
      obtain ⟨cv, rfl, hi1, hr1⟩ := hpost
      have ht1 : TOk (xOf c.rc) g1 env a.tmps := hS.tok.mono hgr (fun M hM => by cases M <;> first | exact True.intro | exact hM.elim)
      exact hpan v H1 g1 w1 cv rfl hgl ⟨hi1, ht1, hS.defs.step hgr.ι hgr.im (fun t _ id off he => he)⟩ hr1
  | nilfn =>
    rw [hfv] at h rf
    have hfe := rf.nilfn
    have h : M.pan (nilDeref c.P) H = some out1 := h
    simp only [M.pan, Option.some.injEq] at h
    subst h
    have hrun : (execOp a.eval o).run c.P w = .halt (.panic (.iface c.P.rt.errorString (strVal "invalid memory address or nil pointer dereference"))) w := by
      rw [hexe, hfe]
      simp only [Deferred.ofValue, Sem.run_bind, Sem.run_pure, Result.andThen_ok, invoke, u7q]
    unfold Oper.wp
    rw [hrun, Oper.upon_panic]
    exact hpan _ H g w _ rfl (Glob.refl _ _) hS u83
  | _ => (rw [hfv] at h; exact (u00 (H := H) h).elim)
theorem ufu {c : Ctx} {a : Act} {ops : Array Oper} {o : Oper} {Δ : List Dfr} {out1 : Out PV} {next : Act → World → Prop} {Q : Exit → Act → World → Prop}
    (hC : CSound c.P c.C) (hrc : c.rc.isSome = false ∨ u08 o = false) (hS : Sta c g H env a w Δ) (hd : okDst c.rc.isSome c.prot env o.dst = true) (h : gval c.P c.C c.rc ops env o H = some out1)
    (hok : ∀ v H1 g' a' w', out1 = .ok v H1 → Glob g w g' w' → Sta c g' H1 (put c.rc ops env o v) a' w' Δ → next a' w')
    (hpan : ∀ v H1 g' w' cv, out1 = .pan v H1 → Glob g w g' w' → Sta c g' H1 env a w' Δ → Rep g'.ι g'.im v cv → Q (.panic [{ v := cv, recovered := false }]) a w') :
    if Region.wanted o (yielded ops a.tmps) then o.wp c.P a w next Q else next (a.put o.dst undef) w := by
  have main : opVal c.P c.C c.rc ops env o H = some out1 → o.wp c.P a w next Q := by
    intro h
    by_cases hn : u7i o.op = true
    · have hres := un6 hn h hS.inv hS.tok
      have hrec : u08 o = false := by
        unfold u08
        cases hop : o.op <;> first | rfl | skip
        rename_i cl
        obtain ⟨callee, args, tys⟩ := cl
        cases callee <;> first | rfl | skip
        rename_i b
        cases b <;> first | rfl | skip
        rw [hop] at hn
        simp [u7i] at hn
      unfold Oper.wp
      cases out1 with
      | ok v H1 =>
        obtain ⟨cv, w1, g1, hr, hgl, hi1, ht1, hv⟩ := hres
        have hι : ∀ (i b : Nat), g.ι[i]? = some b → g1.ι[i]? = some b := hgl.up.ι
        have him : ∀ b o v, g.im b o = some v → g1.im b o = some v := hgl.up.im
        have hst := hS.put (.inr hrec) hd hi1 ht1 hv hι him
        rcases hr with hr | ⟨hr, rfl⟩
        · rw [hr, Oper.upon_value]
          exact hok v H1 g1 _ w1 rfl hgl hst
        · rw [hr, Oper.upon_skip]
          exact hok v H1 g1 _ w1 rfl hgl hst
      | pan v H1 =>
        obtain ⟨cv, w1, g1, hr, hgl, hi1, hgr, hv⟩ := hres
        rw [hr, Oper.upon_panic]
        exact hpan v H1 g1 w1 cv rfl hgl ⟨hi1, hS.tok.mono hgr (fun _ h => h), hS.defs.step hgr.ι hgr.im (fun t _ id off he => he)⟩ hv
    · obtain ⟨dst, op, ty, pos, after, guard⟩ := o
      cases op with
      | call cl =>
        obtain ⟨callee, args, tys⟩ := cl
        cases callee with
        | value f => exact unf hC rfl hS hd h hok hpan
        | invoke r m => exact (u00 (H := H) h).elim
        | builtin b =>
          cases b with
          | recover =>
            rcases hrc with hrc | hrc
            · have : c.rc = none := by cases hr : c.rc <;> simp [hr] at hrc ⊢
              rw [this] at h
              exact (u00 (H := H) h).elim
            · exact absurd hrc (by simp [u08])
          | _ => exact absurd rfl hn
      | defer cl => exact (u00 (H := H) h).elim
      | _ => exact absurd rfl hn
  unfold gval at h
  cases hg : o.guard with
  | none =>
    rw [hg] at h
    have : Region.wanted o (yielded ops a.tmps) = true := by simp [Region.wanted, hg]
    rw [if_pos this]
    exact main h
  | some jw =>
    obtain ⟨j, want⟩ := jw
    rw [hg] at h
    dsimp only at h
    cases hdj : (ops[j]?).bind (·.dst) with
    | none => rw [hdj] at h; exact (u00 (H := H) h).elim
    | some d =>
      rw [hdj] at h
      dsimp only at h
      have rd := ev_tmp hS.tok d
      unfold gd at h
      cases hb : env.getD d .undef with
      | bool b =>
        rw [hb] at h rd
        dsimp only at h
        have hv := rd.bool
        have hy : yielded ops a.tmps j = some b := by
          unfold yielded
          rw [hdj]
          simp only [Option.bind_some]
          cases ht : a.tmps[d]? with
          | none => simp [Array.getD_eq_getD_getElem?, ht, undef] at hv
          | some v =>
            simp [Array.getD_eq_getD_getElem?, ht] at hv
            subst hv
            rfl
        have hw : Region.wanted o (yielded ops a.tmps) = (b == want) := by
          unfold Region.wanted
          rw [hg]
          simp only [hy]
          cases b <;> cases want <;> rfl
        rw [hw]
        cases hbw : (b == want) with
        | true =>
          rw [hbw] at h
          rw [if_pos rfl]
          exact main h
        | false =>
          rw [hbw] at h
          simp only [cond_false, M.pure, Option.some.injEq] at h
          subst h
          rw [if_neg (by simp)]
          exact hok (.tup []) H g _ w rfl (Glob.refl _ _) (hS.put hrc hd hS.inv (hS.tok.giveUp _) (fun t _ => .tup rfl (fun j p v hp _ => by simp at hp)) (fun _ _ h => h) (fun _ _ _ h => h))
      | tup vs =>
        cases vs with
        | nil =>
          rw [hb] at h rd
          have h : M.pure (PV.tup []) H = some out1 := h
          simp only [M.pure, Option.some.injEq] at h
          subst h
          have hv : a.tmps.getD d undef = .tuple #[] := by
            generalize a.tmps.getD d undef = q at rd
            cases rd with
            | one r => cases r with
              | pure r => cases r with
                | flat r => cases r
            | tup h1 r =>
              rename_i w1
              have : w1 = #[] := Array.eq_empty_of_size_eq_zero h1
              rw [this]
          have hy : yielded ops a.tmps j = none := by
            unfold yielded
            rw [hdj]
            simp only [Option.bind_some]
            cases ht : a.tmps[d]? with
            | none => rfl
            | some v =>
              simp [Array.getD_eq_getD_getElem?, ht] at hv
              subst hv
              rfl
          have hw : Region.wanted o (yielded ops a.tmps) = false := by
            unfold Region.wanted
            rw [hg]
            simp only [hy]
            rfl
          rw [hw, if_neg (by simp)]
          exact hok (.tup []) H g _ w rfl (Glob.refl _ _) (hS.put hrc hd hS.inv (hS.tok.giveUp _) (fun t _ => .tup rfl (fun j p v hp _ => by simp at hp)) (fun _ _ h => h) (fun _ _ _ h => h))
        | cons x y => (rw [hb] at h; exact (u00 (H := H) h).elim)
      | _ => (rw [hb] at h; exact (u00 (H := H) h).elim)
end Go.Proofs.YtiiepllnnjjmaaaDoor.Pi
namespace Go.Proofs.YtiiepllnnjjmaaaDoor.Pi
variable {g : G} {L L' : Owner} {w w' : World} {H : Heap} {x : Nat} {env : Env}
theorem um8 {CD CDN : Option PV → CallT} (h : ∀ r f a, Le (CD r f a) (CDN r f a)) {d : Dfr} {o o' : Out PV} (hd : dstep CD d o = some o') : dstep CDN d o = some o' := by
  cases o with
  | ok v H => exact Le.bind (h _ _ _) (fun _ => Le.refl _) H o' hd
  | pan v H => exact Le.bind (h _ _ _) (fun _ => Le.refl _) H o' hd
theorem ufv {CD : Option PV → CallT} {p : PV} {args : List PV} {rest res : M PV} {o : Out PV} (h : deferM CD p args rest res H = some o) :
    ∃ f first caps o2, p = .fn f first caps ∧ rest H = some o2 ∧ dstep CD ⟨f, first ++ args ++ caps, res⟩ o2 = some o := by
  cases p with
  | fn f first caps =>
    unfold deferM at h
    dsimp only at h
    cases hr : rest H with
    | none => rw [hr] at h; simp at h
    | some o2 =>
      rw [hr] at h
      refine ⟨f, first, caps, o2, rfl, rfl, ?_⟩
      cases o2 <;> exact h
  | _ => (unfold deferM at h; exact nomatch h)
theorem ukt {H : Heap} {w : World} {a : Act} (hi : Inv g H w) (hT : TOk x g env a.tmps) {f : Operand} {args : Array Operand} {fid : FuncId} {first caps : List PV} (hf : ev env f = .fn fid first caps) :
    ∃ fv cv, a.eval f = .func (.func fid) fv cv ∧ ArgsOk g (first ++ (args.toList.map fun y => strip (ev env y)) ++ caps) (fv ++ args.map a.eval ++ cv) := by
  have rf := ev_rep hi hT f
  rw [hf] at rf
  obtain ⟨fv, cv, hfe, h1, h2, h3, h4⟩ := rf.fn
  refine ⟨fv, cv, hfe, by simp [h1, h2], fun j p v hp hv => ?_⟩
  have hsz1 : (fv ++ args.map a.eval).size = (first ++ (args.toList.map fun y => strip (ev env y))).length := by simp [h1]
  by_cases hj : j < (first ++ (args.toList.map fun y => strip (ev env y))).length
  · rw [List.getElem?_append_left hj] at hp
    rw [Array.getElem?_append_left (by omega)] at hv
    by_cases hj2 : j < first.length
    · rw [List.getElem?_append_left hj2] at hp
      rw [Array.getElem?_append_left (by omega)] at hv
      have := h3 j p v hp hv
      exact ⟨rT this _, this.strip⟩
    · rw [List.getElem?_append_right (by omega)] at hp
      rw [Array.getElem?_append_right (by omega)] at hv
      simp only [List.getElem?_map, Option.map_eq_some_iff] at hp
      obtain ⟨y, hy, rfl⟩ := hp
      rw [h1] at hv
      simp only [Array.getElem?_map, Option.map_eq_some_iff] at hv
      obtain ⟨y', hy', rfl⟩ := hv
      have : y = y' := by
        rw [Array.getElem?_toList] at hy
        rw [hy] at hy'
        exact Option.some.inj hy'
      subst this
      exact ⟨(ev_rep hi hT y).strip, u8n _⟩
  · rw [List.getElem?_append_right (by omega)] at hp
    rw [Array.getElem?_append_right (by omega)] at hv
    rw [hsz1] at hv
    have := h4 _ p v hp hv
    exact ⟨rT this _, this.strip⟩
theorem u8r (i n : Nat) : List.range' i (n + 1) = i :: List.range' (i + 1) n := rfl
variable {c : Ctx} {CDN : Option PV → CallT} {Q : Exit → Act → World → Prop} {g0 : G} {w0 : World} {out : Out PV}
theorem u7m (hC : CSound c.P c.C) (hrc : c.rc = none) (hle : ∀ r f a, Le (c.CD r f a) (CDN r f a)) {ops : Array Oper} {k : Env → M PV} (hleaf : Leaf CDN c g0 w0 out k (Q .normal)) (hpl : ua3 CDN c g0 w0 out fun ch => Q (.panic ch)) :
    ∀ (l : List Oper) (i : Nat) (env : Env) (a : Act) (w : World) (g : G) (H : Heap) (Δ : List Dfr) (o : Out PV), (∀ j, l[j]? = ops[i + j]?) → Glob g0 w0 g w → Sta c g H env a w Δ → dOps c ops l env k H = some o → unw CDN Δ o = some out →
      wpOps c.P ops Q (List.range' i l.length) a w
  | [], i, env, a, w, g, H, Δ, o, hl, hgl, hS, h, hu => hleaf Δ o g H env a w h hu hgl hS
  | q :: r, i, env, a, w, g, H, Δ, o, hl, hgl, hS, h, hu => by
    have hq : ops[i]? = some q := by
      have := hl 0
      simpa using this.symm
    have hr : ∀ j, r[j]? = ops[i + 1 + j]? := fun j => by
      have := hl (j + 1)
      simpa [Nat.add_assoc, Nat.add_comm 1 j] using this
    rw [List.length_cons, u8r]
    unfold wpOps
    rw [hq]
    dsimp only
    have other : okDst c.rc.isSome c.prot env q.dst = true → (M.bind (gval c.P c.C c.rc ops env q) fun v => dOps c ops r (put c.rc ops env q v) k) H = some o →
        if Region.wanted q (yielded ops a.tmps) then q.wp c.P a w (wpOps c.P ops Q (List.range' (i + 1) r.length)) Q ∨ (q.asks c.P a w ∧ LetsOut Q) else wpOps c.P ops Q (List.range' (i + 1) r.length) (a.put q.dst undef) w := by
      intro hok hb
      unfold M.bind at hb
      cases hg : gval c.P c.C c.rc ops env q H with
      | none => rw [hg] at hb; simp at hb
      | some o1 =>
        rw [hg] at hb
        have hst := ufu (Q := Q) (next := wpOps c.P ops Q (List.range' (i + 1) r.length)) hC (.inl (by rw [hrc]; rfl)) hS hok hg (fun v H1 g' a' w' he hgl' hS' => by
            subst he
            exact u7m hC hrc hle hleaf hpl r (i + 1) _ a' w' g' H1 Δ o hr (hgl.trans hgl') hS' hb hu) (fun v H1 g' w' cv he hgl' hS' hv => by
            subst he
            simp only [Option.some.injEq] at hb
            subst hb
            exact hpl Δ v H1 g' env a w' cv hu (hgl.trans hgl') hS' hv)
        split
        · rename_i hw
          rw [if_pos hw] at hst
          exact .inl hst
        · rename_i hw
          rw [if_neg hw] at hst
          exact hst
    rw [u5l] at h
    obtain ⟨hok, h⟩ := u03 h
    obtain ⟨dst, op, ty, pos, after, guard⟩ := q
    cases op with
    | defer cl =>
      obtain ⟨callee, args, tys⟩ := cl
      cases callee with
      | value f =>
        dsimp only at h
        cases guard with
        | some jw => exact (u00 (H := H) h).elim
        | none =>
          dsimp only at h
          obtain ⟨hgd, h2⟩ := u03 h
          simp only [Bool.and_eq_true, Bool.not_eq_true', List.all_eq_true] at hgd
          obtain ⟨fid, first, caps, o2, hfe, hrest, hds⟩ := ufv h2
          obtain ⟨fv, cv, hfv, hargs⟩ := ukt (args := args) hS.inv hS.tok hfe
          rw [if_pos (by simp [Region.wanted])]
          refine .inl ?_
          unfold Oper.wp
          have hrun : (execOp a.eval ⟨dst, .defer ⟨.value f, args, tys⟩, ty, pos, after, none⟩).run c.P w = .ok (.defer { target := .fn (.func fid) cv, args := fv ++ args.map a.eval }) w := by
            have : execOp a.eval ⟨dst, .defer ⟨.value f, args, tys⟩, ty, pos, after, none⟩ = (do pure (.defer (← Deferred.ofValue (a.eval f) (args.map a.eval))) : Sem Next) := rfl
            rw [this, hfv]
            rfl
          rw [hrun, Oper.upon_defer]
          have hput := hS.put (o := ⟨dst, .defer ⟨.value f, args, tys⟩, ty, pos, after, none⟩) (ops := ops) (v := .undef) (cv := undef) (.inr rfl) hok hS.inv (hS.tok.giveUp _) (fun t _ => .one (.undef _)) (fun _ _ h => h) (fun _ _ _ h => h)
          have hkeep : ∀ t ∈ c.prot, ∀ id off, env.getD t .undef = .ptr id off → (put c.rc ops env ⟨dst, .defer ⟨.value f, args, tys⟩, ty, pos, after, none⟩ .undef).getD t .undef = .ptr id off := by
            intro t ht id off he
            exact uns (.inr rfl) hok ht he
          refine u7m hC hrc hle hleaf hpl r (i + 1) _ _ w g H (⟨fid, first ++ (args.toList.map fun y => strip (ev env y)) ++ caps, c.res env⟩ :: Δ) o2 hr hgl ⟨hS.inv, ?_, ?_⟩ hrest ?_
          · have : ({ a with defers := { target := .fn (.func fid) cv, args := fv ++ args.map a.eval } :: a.defers } : Act).put dst undef = { (a.put dst undef) with defers := { target := .fn (.func fid) cv, args := fv ++ args.map a.eval } :: a.defers } := by cases dst <;> rfl
            rw [this]
            exact hput.tok
          · have : ({ a with defers := { target := .fn (.func fid) cv, args := fv ++ args.map a.eval } :: a.defers } : Act).put dst undef = { (a.put dst undef) with defers := { target := .fn (.func fid) cv, args := fv ++ args.map a.eval } :: a.defers } := by cases dst <;> rfl
            rw [this]
            refine ⟨⟨cv, fv ++ args.map a.eval, rfl, hargs⟩, ⟨?_, env, rfl, fun t ht => ?_⟩, ?_⟩
            · intro hc
              rw [hc] at hgd
              simp at hgd
            · have hp := hgd.2 t ht
              cases hv : env.getD t .undef <;> rw [hv] at hp <;> simp [isPtr] at hp
              exact ⟨_, _, rfl, hkeep t ht _ _ hv⟩
            · have := hput.defs
              have e : (a.put dst undef).defers = a.defers := by cases dst <;> rfl
              rw [e] at this
              exact this
          · show (dstep CDN _ o2).bind (unw CDN Δ) = some out
            rw [um8 hle hds]
            exact hu
      | invoke rv m => exact other hok h
      | builtin b => exact other hok h
    | _ => exact other hok h
end Go.Proofs.YtiiepllnnjjmaaaDoor.Pi
namespace Go.Proofs.YtiiepllnnjjmaaaDoor.Pi
def u3i (l : List Tmp) (e e' : Env) : Prop := ∀ t ∈ l, e.getD t .undef = e'.getD t .undef
theorem umb {e e' : Env} {x : Operand} (h : ∀ t, x = .tmp t → e.getD t .undef = e'.getD t .undef) : ev e x = ev e' x := by
  cases x with
  | tmp t => exact h t rfl
  | _ => rfl
theorem uhx {ops : Array Oper} {o : Oper} {e e' : Env} (h : u3i (o.looksAt ops) e e') : ∀ x ∈ o.op.operands, ev e x = ev e' x := by
  intro x hx
  refine umb fun t ht => h t ?_
  subst ht
  exact List.mem_append_left _ (List.mem_filterMap.2 ⟨.tmp t, by simpa using hx, rfl⟩)
theorem ufc {P : Program} {e e' : Env} {place : Nat → Option (Nat × Nat)} {ps : Array (Nat × Operand)} (h : ∀ x ∈ ps.map (·.2), ev e x = ev e' x) : parts P e place ps = parts P e' place ps := by
  unfold parts
  refine List.map_congr_left fun p hp => ?_
  obtain ⟨i, x⟩ := p
  have := h x (Array.mem_map.2 ⟨(i, x), by simpa using hp, rfl⟩)
  simp only [this]
theorem ubd {ops : Array Oper} {dst : Option Tmp} {t : TypeId} {ps : Array (Nat × Operand)} {ty : TypeId} {pos : String} {after : Array Edge} {guard : Option (Nat × Bool)} {i s : Nat} (hh : handB ops ⟨dst, .build t ps, ty, pos, after, guard⟩ = some (i, s)) : ps.toList = [(i, .tmp s)] := by
  unfold handB at hh
  dsimp only at hh
  cases hb : boxedB ops dst with
  | false => rw [hb] at hh; cases hh
  | true =>
    rw [hb] at hh
    unfold single at hh
    dsimp only [cond_true] at hh
    split at hh
    · rename_i hl
      simp only [Option.some.injEq, Prod.mk.injEq] at hh
      rw [hl, hh.1, hh.2]
    · cases hh
theorem u9a {P : Program} {C : CallT} {rc : Option (Option PV)} {ops : Array Oper} {o : Oper} {e e' : Env} (hr : u08 o = false) (h : u3i (o.looksAt ops) e e') : opVal P C rc ops e o = opVal P C rc ops e' o := by
  have hx := uhx h
  obtain ⟨dst, op, ty, pos, after, guard⟩ := o
  have pairs : ∀ ps : Array (Nat × Operand), (∀ x ∈ ps.map (·.2), ev e x = ev e' x) → (ps.toList.map fun p => ev e p.2) = (ps.toList.map fun p => ev e' p.2) := fun ps hp =>
    List.map_congr_left fun p hm => hp p.2 (Array.mem_map.2 ⟨p, by simpa using hm, rfl⟩)
  have maps : ∀ (xs : Array Operand), (∀ x ∈ xs, ev e x = ev e' x) → xs.toList.map (ev e) = xs.toList.map (ev e') := fun xs hp =>
    List.map_congr_left fun x hm => hp x (by simpa using hm)
  have mapss : ∀ (xs : Array Operand), (∀ x ∈ xs, ev e x = ev e' x) → (xs.toList.map fun x => strip (ev e x)) = (xs.toList.map fun x => strip (ev e' x)) := fun xs hp =>
    List.map_congr_left fun x hm => by rw [hp x (by simpa using hm)]
  cases op <;> simp only [Op.operands] at hx <;> unfold opVal <;> dsimp only
  case build t ps =>
    have := fun place => ufc (P := P) (e := e) (e' := e') (place := place) (ps := ps) (fun x hm => hx x (by simpa using hm))
    cases hh : handB ops ⟨dst, .build t ps, ty, pos, after, guard⟩ with
    | none => simp only [this]
    | some is =>
      obtain ⟨i, s⟩ := is
      have hps := ubd hh
      have : e.getD s .undef = e'.getD s .undef := hx (.tmp s) (by
        rw [hps]
        simp)
      simp only [this]
      cases P.underlying t with
      | none => rfl
      | some d => cases d <;> first | rfl | (simp only [Option.isNone_some, Bool.and_false]; rfl)
  case buildSlice t n ps => rw [pairs ps fun x hm => hx x (by simpa using hm)]
  case makeFunc fn first captured =>
    cases fn with
    | func f => dsimp only; rw [maps first fun x hm => hx x (by simp [hm]), maps captured fun x hm => hx x (by simp [hm])]
    | _ => rfl
  case call c =>
    obtain ⟨callee, args, tys⟩ := c
    cases callee with
    | value f =>
      dsimp only
      rw [mapss args fun x hm => hx x (by simp [Call.operands, hm]), hx f (by simp [Call.operands])]
    | invoke r m => rfl
    | builtin b =>
      cases b <;> first | (simp [u08] at hr; done) | (dsimp only; rw [maps args fun x hm => hx x (by simp [Call.operands, hm])])
  case slice t x lo hi mx => cases lo <;> cases hi <;> cases mx <;> simp_all
  case next it b => cases b <;> simp_all
  all_goals (first | rfl | (simp_all; done))
theorem u35 {P : Program} {C : CallT} {rc : Option (Option PV)} {ops : Array Oper} {o : Oper} {e e' : Env} (hr : u08 o = false) (h : u3i (o.looksAt ops) e e') : gval P C rc ops e o = gval P C rc ops e' o := by
  unfold gval
  cases hg : o.guard with
  | none => exact u9a hr h
  | some jw =>
    obtain ⟨j, want⟩ := jw
    dsimp only
    cases hd : (ops[j]?).bind (·.dst) with
    | none => rfl
    | some d =>
      dsimp only
      rw [u9a hr h, h d (by unfold Oper.looksAt; rw [hg]; simp [hd])]
def setAll (e : Env) : List (Tmp × PV) → Env
  | [] => e
  | (t, v) :: r => setAll (e.set t v) r
def u1m (ops : Array Oper) (o : Oper) (e : Env) (v : PV) : List (Tmp × PV) :=
  (match given ops o with
   | some (s, none) => [(s, strip (e.getD s .undef))]
   | some (s, some i) => [(s, tupDrop i (e.getD s .undef))]
   | none => []) ++ (match o.dst with | some d => [(d, v)] | none => [])
theorem u1b {rc : Option (Option PV)} {ops : Array Oper} {o : Oper} {e : Env} {v : PV} (hr : u08 o = false) : put rc ops e o v = setAll e (u1m ops o e v) := by
  unfold Pi.put took u1m giveUp
  rw [hr]
  simp only [Bool.false_and, cond_false]
  cases given ops o with
  | none => cases o.dst <;> rfl
  | some q =>
    obtain ⟨s, i⟩ := q
    cases i <;> cases o.dst <;> rfl
theorem u19 (e : Env) (l : List (Tmp × PV)) {t : Nat} (h : ∀ p ∈ l, p.1 ≠ t) : (setAll e l).getD t .undef = e.getD t .undef := by
  induction l generalizing e with
  | nil => rfl
  | cons p r ih =>
    obtain ⟨s, v⟩ := p
    show (setAll (e.set s v) r).getD t .undef = _
    rw [ih _ (fun q hq => h q (List.mem_cons_of_mem _ hq))]
    have := h (s, v) List.mem_cons_self
    simp only [List.getD_eq_getElem?_getD, List.getElem?_set_ne this]
theorem uix (e : Env) (l : List (Tmp × PV)) {t : Nat} (v : PV) (h : ∀ p ∈ l, p.1 ≠ t) : setAll (e.set t v) l = (setAll e l).set t v := by
  induction l generalizing e with
  | nil => rfl
  | cons p r ih =>
    obtain ⟨s, u⟩ := p
    show setAll ((e.set t v).set s u) r = (setAll (e.set s u) r).set t v
    have hne : s ≠ t := h (s, u) List.mem_cons_self
    rw [List.set_comm _ _ (fun h => hne h.symm), ih _ (fun q hq => h q (List.mem_cons_of_mem _ hq))]
theorem u51 (e : Env) (a b : List (Tmp × PV)) (h : ∀ p ∈ a, ∀ q ∈ b, p.1 ≠ q.1) : setAll (setAll e a) b = setAll (setAll e b) a := by
  induction b generalizing e with
  | nil => rfl
  | cons q r ih =>
    obtain ⟨t, v⟩ := q
    show setAll ((setAll e a).set t v) r = setAll (setAll (e.set t v) r) a
    rw [← uix e a v (fun p hp => h p hp (t, v) List.mem_cons_self)]
    exact ih _ (fun p hp q hq => h p hp q (List.mem_cons_of_mem _ hq))
theorem u1w (e : Env) (l : List (Tmp × PV)) : (setAll e l).length = e.length := by
  induction l generalizing e with
  | nil => rfl
  | cons p r ih => obtain ⟨t, v⟩ := p; show (setAll (e.set t v) r).length = _; rw [ih]; simp
theorem u0l {ops : Array Oper} {o : Oper} {e : Env} {v : PV} : ∀ p ∈ u1m ops o e v, p.1 ∈ u4x ops o := by
  intro p hp
  unfold u1m at hp
  unfold u4x u78
  rcases List.mem_append.mp hp with h | h
  · refine List.mem_append_right _ ?_
    cases hg : given ops o with
    | none => rw [hg] at h; cases h
    | some q =>
      obtain ⟨s, i⟩ := q
      rw [hg] at h
      cases i <;> (simp only [List.mem_singleton] at h; subst h; exact List.mem_singleton.mpr rfl)
  · refine List.mem_append_left _ ?_
    cases hd : o.dst with
    | none => rw [hd] at h; cases h
    | some d => rw [hd] at h; simp only [List.mem_singleton] at h; subst h; simp
theorem ug2 {ops : Array Oper} {o : Oper} : ∀ t ∈ u78 ops o, t ∈ o.looksAt ops := by
  intro t ht
  unfold u78 at ht
  cases hg : given ops o with
  | none => rw [hg] at ht; cases ht
  | some q =>
    obtain ⟨s, i⟩ := q
    rw [hg] at ht
    simp only [List.mem_singleton] at ht
    subst ht
    refine List.mem_append_left _ (List.mem_filterMap.2 ⟨.tmp t, ?_, rfl⟩)
    obtain ⟨dst, op, ty, pos, after, guard⟩ := o
    unfold given at hg
    dsimp only at hg ⊢
    split at hg
    · revert hg
      cases moves ops _ <;> intro hg <;> simp [Op.operands] at hg ⊢
      exact hg.1.symm
    · revert hg
      cases moves ops _ <;> intro hg <;> simp [Op.operands] at hg ⊢
      exact hg.1.symm
    · simp [Op.operands] at hg ⊢
      exact .inr hg.1.symm
    · simp [Op.operands] at hg ⊢
      exact hg.1.symm
    · simp only [Option.map_eq_some_iff] at hg
      obtain ⟨⟨j, s⟩, hh, hs⟩ := hg
      have hps := ubd hh
      simp only [Prod.mk.injEq] at hs
      obtain ⟨rfl, _⟩ := hs
      simp only [Op.operands, Array.toList_map, hps]
      simp
    · revert hg
      cases fromB ops _ <;> intro hg <;> simp [Op.operands] at hg ⊢
      exact hg.1.symm
    · split at hg
      · rename_i args _ _ _ hargs
        simp at hg
        simp only [Op.operands, Call.operands]
        have := Array.mem_of_getElem? hargs
        rw [hg.1] at this
        simpa using this
      · cases hg
    · cases hg
def StepN (c : Ctx) (ops : Array Oper) (H : Heap) (o : Oper) (e e' : Env) : Prop :=
  okDst c.rc.isSome c.prot e o.dst = true ∧ ∃ v, gval c.P c.C c.rc ops e o H = some (.ok v H) ∧ e' = put c.rc ops e o v
def RunN (c : Ctx) (ops : Array Oper) (H : Heap) : List Nat → Env → Env → Prop
  | [], e, e' => e = e'
  | i :: r, e, e' => ∃ o e1, ops[i]? = some o ∧ StepN c ops H o e e1 ∧ RunN c ops H r e1 e'
variable {c : Ctx} {ops : Array Oper} {H : Heap}
theorem u1x {b : Bool} {pr : List Tmp} {e e' : Env} {d : Option Tmp} (hl : e.length = e'.length) (h : ∀ t, d = some t → e.getD t .undef = e'.getD t .undef) : okDst b pr e d = okDst b pr e' d := by
  cases d with
  | none => rfl
  | some t => unfold okDst; dsimp only; rw [h t rfl, hl]
theorem u28 {o : Oper} {e e' : Env} {v : PV} (h : u3i (o.looksAt ops) e e') : u1m ops o e v = u1m ops o e' v := by
  unfold u1m
  congr 1
  cases hg : given ops o with
  | none => rfl
  | some q =>
    obtain ⟨s, i⟩ := q
    have hs : s ∈ o.looksAt ops := ug2 s (by unfold u78; rw [hg]; simp)
    cases i <;> (dsimp only; rw [h s hs])
theorem u43 {x y : Oper} (h : apartN ops x y = true) : (∀ t ∈ u4x ops x, t ∉ y.looksAt ops) ∧ (∀ t ∈ u4x ops x, t ∉ u4x ops y) ∧ ∀ t ∈ u4x ops y, t ∉ x.looksAt ops := by
  unfold apartN at h
  simp only [Bool.and_eq_true, List.all_eq_true, Bool.not_eq_true', List.contains_eq_mem, decide_eq_false_iff_not] at h
  exact ⟨fun t ht => (h.1 t ht).1, fun t ht => (h.1 t ht).2, fun t ht => h.2 t ht⟩
theorem exSwap {x y : Oper} {e : Env} {v u : PV} {H1 H2 : Heap} (hp : exPair x y = true) (g1 : gval c.P c.C c.rc ops e x H = some (.ok v H1)) (g2 : gval c.P c.C c.rc ops (put c.rc ops e x v) y H1 = some (.ok u H2))
    (k1 : okDst c.rc.isSome c.prot e x.dst = true) (k2 : okDst c.rc.isSome c.prot (put c.rc ops e x v) y.dst = true) :
    H1 = H ∧ H2 = H ∧ okDst c.rc.isSome c.prot e y.dst = true ∧ okDst c.rc.isSome c.prot (put c.rc ops e y u) x.dst = true ∧ (∀ K, gval c.P c.C c.rc ops e y K = some (.ok u K)) ∧ (∀ K, gval c.P c.C c.rc ops (put c.rc ops e y u) x K = some (.ok v K)) ∧
      put c.rc ops (put c.rc ops e y u) x v = put c.rc ops (put c.rc ops e x v) y u ∧ (∀ e, touch e x = .no) ∧ (∀ e, touch e y = .no) := by
  obtain ⟨dx, ox, tx, sx, ax, gx⟩ := x
  obtain ⟨dy, oy, ty, sy, ay, gy⟩ := y
  unfold exPair at hp
  split at hp
  · rename_i s i t j a b e1 e2 e3 e4
    dsimp only at e1 e2 e3 e4
    subst e1 e2 e3 e4
    simp only [Bool.and_eq_true, beq_iff_eq, bne_iff_ne, ne_eq, Option.isNone_iff_eq_none] at hp
    obtain ⟨rfl, hij, hab, has, hbs, rfl, rfl⟩ := hp
    have px : ∀ (e : Env) (w : PV), put c.rc ops e ⟨some a, .extract (.tmp s) i, tx, sx, ax, none⟩ w = (e.set s (tupDrop i (e.getD s .undef))).set a w := by
      intro e w
      unfold Pi.put took
      simp [u08, given, giveUp, putDst]
    have py : ∀ (e : Env) (w : PV), put c.rc ops e ⟨some b, .extract (.tmp s) j, ty, sy, ay, none⟩ w = (e.set s (tupDrop j (e.getD s .undef))).set b w := by
      intro e w
      unfold Pi.put took
      simp [u08, given, giveUp, putDst]
    have gx : ∀ (e : Env), gval c.P c.C c.rc ops e ⟨some a, .extract (.tmp s) i, tx, sx, ax, none⟩ = ex i (e.getD s .undef) := fun e => rfl
    have gy : ∀ (e : Env), gval c.P c.C c.rc ops e ⟨some b, .extract (.tmp s) j, ty, sy, ay, none⟩ = ex j (e.getD s .undef) := fun e => rfl
    rw [gx] at g1
    rw [gy, px] at g2
    rw [px] at k2
    have hsl : s < e.length := by
      refine Nat.lt_of_not_le fun hle => ?_
      rw [List.getD_eq_getElem?_getD, List.getElem?_eq_none hle] at g1
      exact (u00 (H := H) g1).elim
    have hs1 : (((e.set s (tupDrop i (e.getD s .undef))).set a v).getD s .undef) = tupDrop i (e.getD s .undef) := by
      rw [List.getD_eq_getElem?_getD, List.getElem?_set_ne has, List.getElem?_set_self hsl]; rfl
    rw [hs1] at g2
    generalize hes : e.getD s .undef = es at *
    cases es with
    | tup vs =>
      unfold ex at g1
      dsimp only at g1
      have g2 : (match (vs.set i (stripC (vs.getD i .undef)))[j]? with | some v => M.pure v | none => M.fail) H1 = some (.ok u H2) := g2
      rw [List.getElem?_set_ne hij] at g2
      cases hvi : vs[i]? with
      | none => rw [hvi] at g1; exact (u00 (H := H) g1).elim
      | some vi =>
        rw [hvi] at g1
        cases hvj : vs[j]? with
        | none => rw [hvj] at g2; exact (u00 (H := H1) g2).elim
        | some vj =>
          rw [hvj] at g2
          simp only [M.pure, Option.some.injEq, Out.ok.injEq] at g1 g2
          obtain ⟨rfl, rfl⟩ := g1
          obtain ⟨rfl, rfl⟩ := g2
          have hlen1 : ∀ w w' : PV, ((e.set s w).set a w').length = e.length := by simp
          refine ⟨rfl, rfl, ?_, ?_, fun K => ?_, fun K => ?_, ?_, fun _ => rfl, fun _ => rfl⟩
          · rw [← k2]
            refine u1x (by simp) fun t ht => ?_
            cases ht
            simp only [List.getD_eq_getElem?_getD]
            rw [List.getElem?_set_ne hab, List.getElem?_set_ne (fun h => hbs h.symm)]
          · rw [← k1, py]
            refine u1x (by simp) fun t ht => ?_
            cases ht
            simp only [List.getD_eq_getElem?_getD]
            rw [List.getElem?_set_ne (fun h => hab h.symm), List.getElem?_set_ne (fun h => has h.symm)]
          · rw [gy, hes]
            show (match vs[j]? with | some v => M.pure v | none => M.fail) K = _
            rw [hvj]; rfl
          · rw [gx, py, hes]
            have : (((e.set s (tupDrop j (.tup vs))).set b vj).getD s .undef) = tupDrop j (.tup vs) := by
              rw [List.getD_eq_getElem?_getD, List.getElem?_set_ne hbs, List.getElem?_set_self hsl]; rfl
            rw [this]
            show (match (vs.set j (stripC (vs.getD j .undef)))[i]? with | some v => M.pure v | none => M.fail) K = _
            rw [List.getElem?_set_ne (fun h => hij h.symm), hvi]; rfl
          · rw [px, py, px, py, hes, hs1]
            have hs2 : (((e.set s (tupDrop j (.tup vs))).set b vj).getD s .undef) = tupDrop j (.tup vs) := by
              rw [List.getD_eq_getElem?_getD, List.getElem?_set_ne hbs, List.getElem?_set_self hsl]; rfl
            rw [hs2]
            have ht : tupDrop i (tupDrop j (.tup vs)) = tupDrop j (tupDrop i (.tup vs)) := by
              simp only [tupDrop, List.getD_eq_getElem?_getD, PV.tup.injEq]
              rw [List.getElem?_set_ne (fun h => hij h.symm), List.getElem?_set_ne hij, List.set_comm _ _ hij]
            rw [ht]
            rw [List.set_comm (l := e.set s (tupDrop j (.tup vs))) _ _ hbs, List.set_set, List.set_comm (l := e.set s (tupDrop i (.tup vs))) _ _ has, List.set_set, List.set_comm _ _ hab]
    | _ => exact (u00 (H := H) g1).elim
  · cases hp
theorem swapN {x y : Oper} {e e1 e2 : Env} (hx : u08 x = false) (hy : u08 y = false) (ha : apartN ops x y = true) (h1 : StepN c ops H x e e1) (h2 : StepN c ops H y e1 e2) :
    ∃ e1', StepN c ops H y e e1' ∧ StepN c ops H x e1' e2 := by
  obtain ⟨a1, a2, a3⟩ := u43 ha
  obtain ⟨k1, v, g1, rfl⟩ := h1
  obtain ⟨k2, u, g2, rfl⟩ := h2
  rw [u1b hx] at k2 g2 ⊢
  rw [u1b hy]
  have agY : u3i (y.looksAt ops) (setAll e (u1m ops x e v)) e := fun t ht => u19 e _ fun p hp he => a1 p.1 (u0l p hp) (he ▸ ht)
  have agX : u3i (x.looksAt ops) (setAll e (u1m ops y e u)) e := fun t ht => u19 e _ fun p hp he => a3 p.1 (u0l p hp) (he ▸ ht)
  refine ⟨setAll e (u1m ops y e u), ⟨?_, u, ?_, (u1b hy).symm⟩, ?_, v, ?_, ?_⟩
  · rw [← k2]
    refine u1x (by rw [u1w]) fun t ht => (u19 e _ fun p hp he => ?_).symm
    refine a2 p.1 (u0l p hp) ?_
    rw [he]
    exact List.mem_append_left _ (by rw [ht]; simp)
  · rw [← g2]
    exact congrFun (u35 hy agY).symm H
  · rw [← k1]
    refine u1x (by rw [u1w]) fun t ht => u19 e _ fun p hp he => ?_
    refine a2 t (List.mem_append_left _ (by rw [ht]; simp)) ?_
    rw [← he]
    exact u0l p hp
  · rw [← g1]
    exact congrFun (u35 hx agX) H
  · rw [u1b hx, u28 agX, u28 agY]
    exact u51 e _ _ fun p hp q hq he => a2 p.1 (u0l p hp) (he ▸ u0l q hq)
theorem swapE {x y : Oper} {e e1 e2 : Env} (hx : u08 x = false) (hy : u08 y = false) (ha : apartE ops x y = true) (h1 : StepN c ops H x e e1) (h2 : StepN c ops H y e1 e2) :
    ∃ e1', StepN c ops H y e e1' ∧ StepN c ops H x e1' e2 := by
  unfold apartE at ha
  rw [Bool.or_eq_true] at ha
  rcases ha with ha | ha
  · exact swapN hx hy ha h1 h2
  · obtain ⟨k1, v, g1, rfl⟩ := h1
    obtain ⟨k2, u, g2, rfl⟩ := h2
    obtain ⟨_, _, q1, q2, q3, q4, q5, _⟩ := exSwap ha g1 g2 k1 k2
    exact ⟨_, ⟨q1, u, q3 H, rfl⟩, q2, v, q4 H, q5.symm⟩
theorem frontN {i : Nat} {oi : Oper} (hi : ops[i]? = some oi) (hri : u08 oi = false) (hr : ∀ (j : Nat) (o : Oper), ops[j]? = some o → u08 o = false) : ∀ (A B : List Nat) (e e' : Env),
    (∀ a ∈ A, ∀ oa, ops[a]? = some oa → apartE ops oa oi = true) → RunN c ops H (A ++ i :: B) e e' → RunN c ops H (i :: (A ++ B)) e e'
  | [], B, e, e', ha, h => h
  | a :: A, B, e, e', ha, h => by
    obtain ⟨oa, e1, hoa, hs, hrun⟩ := h
    obtain ⟨o, e2, ho, hs2, hrun2⟩ := frontN hi hri hr A B e1 e' (fun b hb => ha b (List.mem_cons_of_mem _ hb)) hrun
    rw [hi] at ho
    cases ho
    obtain ⟨e1', s1, s2⟩ := swapE (hr a oa hoa) hri (ha a List.mem_cons_self oa hoa) hs hs2
    exact ⟨oi, e1', hi, s1, oa, e2, hoa, s2, hrun2⟩
theorem uiw (acc : List Nat) (o : Oper) (i : Nat) (h : (maskB acc o).testBit i = true) : ∃ e ∈ o.after.toList, Region.binds .any e = true ∧ (i = e.on ∨ (acc.getD e.on 0).testBit i = true) := by
  have key : ∀ (l : List Edge) (s : Nat), (l.foldl (fun s e => bif Region.binds .any e then s ||| (2 ^ e.on ||| acc.getD e.on 0) else s) s).testBit i = true →
      s.testBit i = true ∨ ∃ e ∈ l, Region.binds .any e = true ∧ (i = e.on ∨ (acc.getD e.on 0).testBit i = true) := by
    intro l
    induction l with
    | nil => exact fun s h => .inl h
    | cons e r ih =>
      intro s h
      rcases ih _ h with h1 | ⟨q, hq, h2⟩
      · dsimp only at h1
        cases hb : Region.binds .any e with
        | false => rw [hb] at h1; exact .inl h1
        | true =>
          rw [hb] at h1
          simp only [cond_true, Nat.testBit_or, Bool.or_eq_true] at h1
          rcases h1 with h1 | h1 | h1
          · exact .inl h1
          · refine .inr ⟨e, List.mem_cons_self, hb, .inl ?_⟩
            rw [Nat.testBit_two_pow] at h1
            have h2 : e.on = i := by simpa using h1
            exact h2.symm
          · exact .inr ⟨e, List.mem_cons_self, hb, .inr h1⟩
      · exact .inr ⟨q, List.mem_cons_of_mem _ hq, h2⟩
  rcases key _ _ h with h1 | h1
  · simp at h1
  · exact h1
theorem uey : ∀ (l : List Oper) (pre : List Oper) (acc : List Nat), acc.length = pre.length →
    (∀ (j : Nat) (o : Oper) (i : Nat), pre[j]? = some o → (acc.getD j 0).testBit i = true → ∃ e ∈ o.after.toList, Region.binds .any e = true ∧ (i = e.on ∨ (acc.getD e.on 0).testBit i = true)) →
    ∀ (j : Nat) (o : Oper) (i : Nat), (pre ++ l)[j]? = some o → ((befs l acc).getD j 0).testBit i = true → ∃ e ∈ o.after.toList, Region.binds .any e = true ∧ (i = e.on ∨ ((befs l acc).getD e.on 0).testBit i = true)
  | [], pre, acc, hl, h, j, o, i, ho, hb => by
    rw [List.append_nil] at ho
    exact h j o i ho hb
  | q :: r, pre, acc, hl, h, j, o, i, ho, hb => by
    refine uey r (pre ++ [q]) (acc ++ [maskB acc q]) (by simp [hl]) (fun j o i ho hb => ?_) j o i (by simpa using ho) hb
    have mono : ∀ k, (acc.getD k 0).testBit i = true → ((acc ++ [maskB acc q]).getD k 0).testBit i = true := by
      intro k hk
      rw [List.getD_eq_getElem?_getD] at hk ⊢
      by_cases hlt : k < acc.length
      · rw [List.getElem?_append_left hlt]; exact hk
      · rw [List.getElem?_eq_none (by omega)] at hk
        simp at hk
    by_cases hj : j < pre.length
    · rw [List.getElem?_append_left hj] at ho
      rw [List.getD_eq_getElem?_getD, List.getElem?_append_left (by omega), ← List.getD_eq_getElem?_getD] at hb
      obtain ⟨e, he, h1, h2⟩ := h j o i ho hb
      exact ⟨e, he, h1, h2.imp id (mono _)⟩
    · rw [List.getElem?_append_right (by omega)] at ho
      have : j - pre.length = 0 := by
        have := (List.getElem?_eq_some_iff.mp ho).1
        simp at this
        omega
      rw [this] at ho
      cases ho
      have hje : j = acc.length := by omega
      subst hje
      rw [List.getD_eq_getElem?_getD, List.getElem?_append_right (Nat.le_refl _)] at hb
      simp at hb
      obtain ⟨e, he, h1, h2⟩ := uiw acc q i hb
      exact ⟨e, he, h1, h2.imp id (mono _)⟩
theorem u1r (h : commB ops = true) {j : Nat} {y : Oper} (hj : ops[j]? = some y) : u08 y = false ∧ udb y = false ∧ (∀ e ∈ y.after.toList, Region.binds .any e = true → e.on < j) ∧
    ∀ (i : Nat) (x : Oper), i < j → ops[i]? = some x → ((befs ops.toList []).getD j 0).testBit i = true ∨ apartE ops x y = true := by
  have hlt : j < ops.size := (Array.getElem?_eq_some_iff.mp hj).1
  have h1 := List.all_eq_true.mp h j (List.mem_range.mpr hlt)
  rw [hj] at h1
  simp only [Bool.and_eq_true, Bool.not_eq_true', List.all_eq_true, Bool.or_eq_true, decide_eq_true_eq] at h1
  refine ⟨h1.1, h1.2.1, fun e he hb => ?_, fun i x hi hx => ?_⟩
  · rcases h1.2.2.1 e he with h2 | h2
    · rw [hb] at h2; cases h2
    · exact h2
  · rcases h1.2.2.2 i (List.mem_range.mpr hi) with h2 | h2
    · exact .inl h2
    · rw [hx] at h2; exact .inr h2
theorem un7 {j : Nat} {o : Oper} {i : Nat} (hj : ops[j]? = some o) (hb : ((befs ops.toList []).getD j 0).testBit i = true) :
    ∃ e ∈ o.after.toList, Region.binds .any e = true ∧ (i = e.on ∨ ((befs ops.toList []).getD e.on 0).testBit i = true) :=
  uey ops.toList [] [] rfl (fun j o i h => by simp at h) j o i (by simpa using hj) hb
def restOf (ops : Array Oper) (listed : Array Bool) : List Nat := (List.range ops.size).filter fun i => !listed.getD i true
theorem uhc {listed : Array Bool} {i : Nat} (hs : listed.size = ops.size) (hi : i < ops.size) : restOf ops (listed.setIfInBounds i true) = (restOf ops listed).filter (fun k => decide (k ≠ i)) := by
  unfold restOf
  rw [List.filter_filter]
  refine List.filter_congr fun k hk => ?_
  by_cases h : k = i
  · subst h
    simp [Array.getD_eq_getD_getElem?, Array.getElem?_setIfInBounds_self_of_lt (by omega : k < listed.size)]
  · simp [Array.getD_eq_getD_getElem?, Array.getElem?_setIfInBounds_ne (fun e => h e.symm), h]
theorem ucx {i : Nat} {l : List Nat} (hn : l.Nodup) (hi : i ∈ l) : ∃ A B, l = A ++ i :: B ∧ l.filter (fun k => decide (k ≠ i)) = A ++ B := by
  obtain ⟨A, B, rfl⟩ := List.append_of_mem hi
  refine ⟨A, B, rfl, ?_⟩
  rw [List.nodup_append] at hn
  obtain ⟨h1, h2, h3⟩ := hn
  rw [List.filter_append, List.filter_cons]
  simp only [ne_eq, not_true_eq_false, decide_false, Bool.false_eq_true, if_false]
  congr 1
  · exact List.filter_eq_self.mpr fun a ha => by simpa using h3 a ha i List.mem_cons_self
  · refine List.filter_eq_self.mpr fun a ha => ?_
    have := (List.nodup_cons.mp h2).1
    have : a ≠ i := fun e => this (e ▸ ha)
    simpa using this
theorem uk0 {k : Env → M PV} {out : Out PV} : ∀ (l : List Oper) (i : Nat) (env : Env), (∀ j, l[j]? = ops[i + j]?) → dOpsN c ops l env k H = some out → ∃ e', RunN c ops H (List.range' i l.length) env e' ∧ k e' H = some out
  | [], i, env, hl, h => ⟨env, rfl, h⟩
  | o :: r, i, env, hl, h => by
    rw [u6a] at h
    obtain ⟨hok, h⟩ := u03 h
    obtain ⟨v, h1, h2⟩ := nb_some.mp h
    obtain ⟨e', hr, hk⟩ := uk0 r (i + 1) _ (fun j => by
      have := hl (j + 1)
      rw [List.getElem?_cons_succ] at this
      rw [this]
      congr 1
      omega) h2
    have ho : ops[i]? = some o := by
      have := hl 0
      simpa using this.symm
    exact ⟨e', ⟨o, _, ho, ⟨hok, v, h1, rfl⟩, hr⟩, hk⟩
variable {CDN : Option PV → CallT} {Q : Exit → Act → World → Prop} {g0 : G} {w0 : World}
theorem uav (hC : CSound c.P c.C) (hcm : commB ops = true) {Δ : List Dfr} {R : List Nat → Env → Heap → Prop} {PQ : PV → Heap → Prop}
    (hfront : ∀ (A : List Nat) (i : Nat) (B : List Nat) (oi : Oper) (e : Env) (H : Heap), ops[i]? = some oi → (∀ a ∈ A, ∀ oa, ops[a]? = some oa → apartE ops oa oi = true) → (∀ k ∈ A ++ B, ((befs ops.toList []).getD i 0).testBit k = false) → R (A ++ i :: B) e H →
      okDst c.rc.isSome c.prot e oi.dst = true ∧ ∃ o1, gval c.P c.C c.rc ops e oi H = some o1 ∧ (∀ v H1, o1 = .ok v H1 → R (A ++ B) (put c.rc ops e oi v) H1) ∧ ∀ v H1, o1 = .pan v H1 → PQ v H1)
    (hleaf : ∀ e H g a w, R [] e H → Glob g0 w0 g w → Sta c g H e a w Δ → Q .normal a w)
    (hpan : ∀ v H g e a w cv, PQ v H → Glob g0 w0 g w → Sta c g H e a w Δ → Rep g.ι g.im v cv → Q (.panic [{ v := cv, recovered := false }]) a w) :
    ∀ (fuel : Nat) (listed : Array Bool) (env : Env) (H : Heap) (a : Act) (w : World) (g : G), listed.size = ops.size → (restOf ops listed).length ≤ fuel →
      (∀ (j i : Nat), j < ops.size → listed.getD j true = true → ((befs ops.toList []).getD j 0).testBit i = true → i < ops.size → listed.getD i true = true) →
      R (restOf ops listed) env H → Glob g0 w0 g w → Sta c g H env a w Δ → wpAny c.P .any ops Q fuel listed a w := by
  -- nothing ready: nothing left
  have empty : ∀ (listed : Array Bool), listed.size = ops.size → Region.ready .any ops listed = [] → restOf ops listed = [] := by
    intro listed hsz hr
    cases hrest : restOf ops listed with
    | nil => rfl
    | cons i r =>
      exfalso
      have hm : i ∈ restOf ops listed := by rw [hrest]; exact List.mem_cons_self
      have hm' := List.mem_filter.mp hm
      have hlt : i < ops.size := List.mem_range.mp hm'.1
      have hsorted : (restOf ops listed).Pairwise (· < ·) := List.pairwise_lt_range.filter _
      have hmin : ∀ k, k < i → listed.getD k true = true := by
        intro k hk
        cases hlk : listed.getD k true with
        | true => rfl
        | false =>
          exfalso
          have : k ∈ restOf ops listed := List.mem_filter.mpr ⟨List.mem_range.mpr (by omega), by rw [hlk]; rfl⟩
          rw [hrest] at this hsorted
          rcases List.mem_cons.mp this with h | h
          · omega
          · have := (List.pairwise_cons.mp hsorted).1 k h
            omega
      have hready : i ∈ Region.ready .any ops listed := by
        unfold Region.ready
        refine List.mem_filter.mpr ⟨List.mem_range.mpr hlt, ?_⟩
        rw [Bool.and_eq_true]
        refine ⟨hm'.2, ?_⟩
        rw [Array.getElem?_eq_getElem hlt]
        simp only [Option.map_some, Option.getD_some]
        rw [Array.all_eq_true']
        intro e he
        rw [Bool.or_eq_true]
        cases hb : Region.binds .any e with
        | false => exact .inl rfl
        | true =>
          have h1 := (u1r hcm (Array.getElem?_eq_getElem hlt)).2.2.1 e (by simpa using he) hb
          have h2 := hmin e.on h1
          refine .inr ?_
          rw [Array.getD_eq_getD_getElem?] at h2 ⊢
          rw [Array.getElem?_eq_getElem (by omega : e.on < listed.size)] at h2 ⊢
          exact h2
      rw [hr] at hready
      cases hready
  intro fuel
  induction fuel with
  | zero =>
    intro listed env H a w g hsz hlen hdc hrun hgl hS
    have h0 : restOf ops listed = [] := List.eq_nil_of_length_eq_zero (by omega)
    rw [h0] at hrun
    refine ⟨?_, hleaf env H g a w hrun hgl hS⟩
    unfold restOf at h0
    unfold Region.ready
    refine List.filter_eq_nil_iff.mpr fun i hi => ?_
    have := List.filter_eq_nil_iff.mp h0 i hi
    simp only [Bool.and_eq_true, not_and] at this ⊢
    exact fun h => absurd h this
  | succ fuel ih =>
    intro listed env H a w g hsz hlen hdc hrun hgl hS
    refine ⟨fun h0 => ?_, fun i hi => ?_⟩
    · rw [empty listed hsz h0] at hrun
      exact hleaf env H g a w hrun hgl hS
    · have hi' := List.mem_filter.mp hi
      have hlt : i < ops.size := List.mem_range.mp hi'.1
      have hi2 := hi'.2
      rw [Bool.and_eq_true] at hi2
      obtain ⟨hun, hedges⟩ := hi2
      have hoi : ops[i]? = some ops[i] := Array.getElem?_eq_getElem hlt
      have hmem : i ∈ restOf ops listed := List.mem_filter.mpr ⟨List.mem_range.mpr hlt, hun⟩
      have hnd : (restOf ops listed).Nodup := List.nodup_range.filter _
      obtain ⟨A, B, hAB, hfil⟩ := ucx hnd hmem
      have hedge : ∀ e ∈ ops[i].after.toList, Region.binds .any e = true → listed.getD e.on true = true := by
        intro e he hb
        rw [hoi] at hedges
        simp only [Option.map_some, Option.getD_some] at hedges
        rw [Array.all_eq_true'] at hedges
        have := hedges e (by simpa using he)
        rw [hb] at this
        simp only [Bool.not_true, Bool.false_or] at this
        rw [Array.getD_eq_getD_getElem?] at this ⊢
        cases hq : listed[e.on]? with
        | none => rfl
        | some b => rw [hq] at this; exact this
      have hbef : ∀ k, ((befs ops.toList []).getD i 0).testBit k = true → k < ops.size → listed.getD k true = true := by
        intro k hk hks
        obtain ⟨e, he, hb, h1⟩ := un7 hoi hk
        have hel := hedge e he hb
        have hei := (u1r hcm hoi).2.2.1 e he hb
        rcases h1 with rfl | h1
        · exact hel
        · exact hdc e.on k (by omega) hel h1 hks
      rw [hAB] at hrun
      have happ : ∀ k ∈ A, ∀ ok, ops[k]? = some ok → apartE ops ok ops[i] = true := by
        intro k hk ok hok
        have hkm : k ∈ restOf ops listed := by rw [hAB]; exact List.mem_append_left _ hk
        have hkf := List.mem_filter.mp hkm
        have hsorted : (A ++ i :: B).Pairwise (· < ·) := by rw [← hAB]; exact List.pairwise_lt_range.filter _
        have hki : k < i := (List.pairwise_append.mp hsorted).2.2 k hk i List.mem_cons_self
        rcases (u1r hcm hoi).2.2.2 k ok hki hok with h1 | h1
        · have := hbef k h1 (by omega)
          rw [this] at hkf
          cases hkf.2
        · exact h1
      have hnb : ∀ k ∈ A ++ B, ((befs ops.toList []).getD i 0).testBit k = false := by
        intro k hk
        cases hb : ((befs ops.toList []).getD i 0).testBit k with
        | false => rfl
        | true =>
          exfalso
          have hkm : k ∈ restOf ops listed := by
            rw [hAB]
            rcases List.mem_append.mp hk with h | h
            · exact List.mem_append_left _ h
            · exact List.mem_append_right _ (List.mem_cons_of_mem _ h)
          have hkf := List.mem_filter.mp hkm
          have := hbef k hb (List.mem_range.mp hkf.1)
          rw [this] at hkf
          cases hkf.2
      obtain ⟨hok, o1, hg, hrun2, hpq⟩ := hfront A i B ops[i] env H hoi happ hnb hrun
      have hst := ufu (Q := Q) (next := wpAny c.P .any ops Q fuel (listed.setIfInBounds i true)) hC (.inr (u1r hcm hoi).1) hS hok hg (fun v' H1 g' a' w' he hgl' hS' => by
        have hrun2 := hrun2 v' H1 he
        refine ih _ _ _ a' w' g' (by simpa using hsz) ?_ ?_ ?_ (hgl.trans hgl') hS'
        · rw [uhc hsz hlt, hfil]
          rw [hAB] at hlen
          simp only [List.length_append, List.length_cons] at hlen ⊢
          omega
        · intro j k hj hl hb hk
          rw [Array.getD_eq_getD_getElem?] at hl ⊢
          by_cases hki : k = i
          · subst hki
            rw [Array.getElem?_setIfInBounds_self_of_lt (by omega)]
            rfl
          · rw [Array.getElem?_setIfInBounds_ne (fun e => hki e.symm), ← Array.getD_eq_getD_getElem?]
            by_cases hji : j = i
            · subst hji
              exact hbef k hb hk
            · rw [Array.getElem?_setIfInBounds_ne (fun e => hji e.symm), ← Array.getD_eq_getD_getElem?] at hl
              exact hdc j k hj hl hb hk
        · rw [uhc hsz hlt, hfil]
          exact hrun2) (fun v' H1 g' w' cv he hgl' hS' hr' => hpan v' H1 g' env a w' cv (hpq v' H1 he) (hgl.trans hgl') hS' hr')
      unfold wpOp
      rw [hoi]
      dsimp only
      split
      · rename_i hw
        rw [if_pos hw] at hst
        exact .inl hst
      · rename_i hw
        rw [if_neg hw] at hst
        exact hst
theorem u4o (hC : CSound c.P c.C) (hcm : commB ops = true) {Δ : List Dfr} {R : List Nat → Env → Heap → Prop}
    (hfront : ∀ (A : List Nat) (i : Nat) (B : List Nat) (oi : Oper) (e : Env) (H : Heap), ops[i]? = some oi → (∀ a ∈ A, ∀ oa, ops[a]? = some oa → apartE ops oa oi = true) → (∀ k ∈ A ++ B, ((befs ops.toList []).getD i 0).testBit k = false) → R (A ++ i :: B) e H →
      okDst c.rc.isSome c.prot e oi.dst = true ∧ ∃ v H1, gval c.P c.C c.rc ops e oi H = some (.ok v H1) ∧ R (A ++ B) (put c.rc ops e oi v) H1)
    (hleaf : ∀ e H g a w, R [] e H → Glob g0 w0 g w → Sta c g H e a w Δ → Q .normal a w) :
    ∀ (fuel : Nat) (listed : Array Bool) (env : Env) (H : Heap) (a : Act) (w : World) (g : G), listed.size = ops.size → (restOf ops listed).length ≤ fuel →
      (∀ (j i : Nat), j < ops.size → listed.getD j true = true → ((befs ops.toList []).getD j 0).testBit i = true → i < ops.size → listed.getD i true = true) →
      R (restOf ops listed) env H → Glob g0 w0 g w → Sta c g H env a w Δ → wpAny c.P .any ops Q fuel listed a w :=
  uav hC hcm (PQ := fun _ _ => False) (fun A i B oi e H h1 h2 h3 h4 => by
    obtain ⟨k1, v, H1, k2, k3⟩ := hfront A i B oi e H h1 h2 h3 h4
    exact ⟨k1, _, k2, fun v' H' he => by cases he; exact k3, fun v' H' he => by cases he⟩) hleaf (fun _ _ _ _ _ _ _ h => h.elim)
theorem ulx (hC : CSound c.P c.C) (hcm : commB ops = true) {e' : Env} {Δ : List Dfr} (hleaf : ∀ g a w, Glob g0 w0 g w → Sta c g H e' a w Δ → Q .normal a w) :
    ∀ (fuel : Nat) (listed : Array Bool) (env : Env) (a : Act) (w : World) (g : G), listed.size = ops.size → (restOf ops listed).length ≤ fuel →
      (∀ (j i : Nat), j < ops.size → listed.getD j true = true → ((befs ops.toList []).getD j 0).testBit i = true → i < ops.size → listed.getD i true = true) →
      RunN c ops H (restOf ops listed) env e' → Glob g0 w0 g w → Sta c g H env a w Δ → wpAny c.P .any ops Q fuel listed a w :=
  fun fuel listed env a w g h1 h2 h3 h4 h5 h6 => u4o hC hcm (R := fun l e K => K = H ∧ RunN c ops H l e e')
    (fun A i B oi e K hi ha _ hr => by
      obtain ⟨rfl, hr⟩ := hr
      obtain ⟨o, e1, ho, ⟨hok, v, hg, rfl⟩, hrun2⟩ := frontN hi (u1r hcm hi).1 (fun j o hj => (u1r hcm hj).1) A B e e' ha hr
      rw [hi] at ho
      cases ho
      exact ⟨hok, v, K, hg, rfl, hrun2⟩)
    (fun e K g a w hr hgl hS => by
      obtain ⟨rfl, hr⟩ := hr
      have he : e = e' := hr
      subst he
      exact hleaf g a w hgl hS) fuel listed env H a w g h1 h2 h3 ⟨rfl, h4⟩ h5 h6
def agreeT (τ : Touch) (H K : Heap) : Prop :=
  match τ with
  | .no => True
  | .ld i => K[i]? = H[i]?
  | .st i => K[i]? = H[i]?
  | .any => K = H
  | .al n => K.length = H.length
def EffW (τ : Touch) (f : Heap → Heap) : Prop := f = (fun K => K) ∨ ∃ i b, τ = .st i ∧ f = fun K => K.set i b
def StepW (c : Ctx) (ops : Array Oper) (H : Heap) (o : Oper) (e e' : Env) (H' : Heap) : Prop :=
  okDst c.rc.isSome c.prot e o.dst = true ∧ quietO o = true ∧ ∃ v, gval c.P c.C c.rc ops e o H = some (.ok v H') ∧ e' = put c.rc ops e o v ∧ (u14 o = false → H' = H)
def hfree {α : Type} (m : M α) : Prop := ∀ (H H' : Heap) (v : α), m H = some (.ok v H') → H' = H ∧ ∀ K, m K = some (.ok v K)
theorem u04 {α : Type} (v : α) : hfree (M.pure v) := by
  intro H H' u h
  simp only [M.pure, Option.some.injEq, Out.ok.injEq] at h
  obtain ⟨rfl, rfl⟩ := h
  exact ⟨rfl, fun K => rfl⟩
theorem u07 {α : Type} : hfree (M.fail : M α) := fun H H' u h => (u00 (H := H) h).elim
theorem uk5 {α : Type} (v : PV) : hfree (M.pan v : M α) := fun H H' u h => by
  simp only [M.pan, Option.some.injEq] at h
  cases h
theorem u1l {α : Type} {b : Bool} {m : M α} (h : hfree m) : hfree (guardM b m) := by
  cases b
  · exact u07
  · exact h
theorem um7 {τ : Touch} {m : M PV} (hm : hfree m) {H H' : Heap} {v : PV} (h : m H = some (.ok v H')) : ∃ f, EffW τ f ∧ H' = f H ∧ ∀ K, agreeT τ H K → m K = some (.ok v (f K)) :=
  ⟨fun K => K, .inl rfl, (hm H H' v h).1, fun K _ => (hm H H' v h).2 K⟩
theorem ume (off : Nat) (x : PV) : hfree (fa off x) := by cases x <;> first | exact u04 _ | exact u07
theorem umt (i : Nat) (x : PV) : hfree (ex i x) := by
  cases x <;> first | exact u07 | skip
  rename_i vs
  show hfree (match vs[i]? with | some v => M.pure v | none => M.fail)
  cases vs[i]? <;> first | exact u04 _ | exact u07
theorem unb (P : Program) (x : PV) : hfree (nc P x) := by cases x <;> first | exact u04 _ | exact u07 | exact uk5 _
theorem u10 {α : Type} {b : Bool} {x y : M α} (hx : hfree x) (hy : hfree y) : hfree (bif b then x else y) := by cases b <;> assumption
theorem uhh (off : Nat) (n : Option Nat) (x : PV) : hfree (fd off n x) := by
  unfold fd
  repeat' (first | exact u04 _ | exact u07 | refine u10 ?_ ?_ | split)
theorem un8 (t : TypeId) (z : PV) (b : Bool) (x : PV) : hfree (ta t z b x) := by
  cases x <;> first | exact u07 | skip
  · rename_i s v
    show hfree (bif s == t then M.pure _ else bif b then M.pure _ else M.fail)
    cases s == t <;> cases b <;> first | exact u04 _ | exact u07
  · show hfree (bif b then M.pure _ else M.fail)
    cases b <;> first | exact u04 _ | exact u07
theorem u9f (op : BinOp) (k : IntKind) (a b : Int) : hfree (intOp op k a b) := by
  cases op <;> (unfold intOp; dsimp only) <;> repeat' (first | exact u04 _ | exact u07 | refine u10 ?_ ?_)
theorem ufq (op : BinOp) (a b : ByteArray) : hfree (strOp op a b) := by
  cases op <;> (unfold strOp; dsimp only) <;> repeat' (first | exact u04 _ | exact u07 | refine u10 ?_ ?_)
theorem umg (op : BinOp) (ek : EqK) (x y : PV) : hfree (bi op ek x y) := by
  unfold bi
  split <;> repeat' (first | exact u04 _ | exact u07 | exact u9f _ _ _ _ | exact ufq _ _ _ | refine u10 ?_ ?_ | split)
theorem ums (op : UnOp) (x : PV) : hfree (un op x) := by
  unfold un
  split <;> first | exact u04 _ | exact u07 | exact u9f _ _ _ _
theorem una (k : Cv) (own : Bool) (x : PV) : hfree (cv k own x) := by
  unfold cv
  split <;> repeat' (first | exact u04 _ | exact u07 | split)
theorem uip (c a b : PV) : hfree (pick c a b) := by
  unfold pick
  split <;> first | exact u04 _ | exact u07
theorem umh (t : TypeId) (v : PV) : hfree (mi t v) := by
  unfold mi
  exact u10 (u04 _) u07
theorem ucf (z : List PV) (ps : List (Nat × Nat × PV)) : hfree (bd z ps) := by
  unfold bd
  split <;> first | exact u04 _ | exact u07
theorem ult (z : List PV) (o n : Nat) (v : PV) : hfree (bdO z o n v) := by
  unfold bdO
  split
  · exact u10 (u04 _) u07
  · exact ucf _ _
theorem um2 (own : Bool) (a : Option Nat) (vs : List PV) : hfree (bs own a vs) := by
  unfold bs
  exact u10 (u04 _) u07
theorem un4 (own : Bool) (sz b : Nat) (l c : PV) : hfree (mk own sz b l c) := by
  unfold mk
  split <;> repeat' (first | exact u04 _ | exact u07 | refine u10 ?_ ?_)
theorem ulb (len sz : Nat) (a i : PV) : hfree (iaA len sz a i) := by
  unfold iaA u29
  split <;> repeat' (first | exact u04 _ | exact u07 | refine u10 ?_ ?_)
theorem ul7 (sz : Nat) (a i : PV) : hfree (iaS sz a i) := by
  unfold iaS u29
  split <;> repeat' (first | exact u04 _ | exact u07 | refine u10 ?_ ?_ | split)
theorem uly (a i : PV) : hfree (ixS a i) := by
  unfold ixS u29
  split <;> repeat' (first | exact u04 _ | exact u07 | refine u10 ?_ ?_ | split)
theorem ulo (len sz : Nat) (n : Option Nat) (a i : PV) : hfree (ixA len sz n a i) := by
  unfold ixA u29
  split <;> repeat' (first | exact u04 _ | exact u07 | exact uhh _ _ _ | refine u10 ?_ ?_)
theorem umf (own : Bool) (sz b : Nat) (x y : PV) : hfree (ap own sz b x y) := by
  unfold ap
  split <;> repeat' (first | exact u04 _ | exact u07 | refine u10 ?_ ?_ | split)
theorem ujm (x : PV) : hfree (lnS x) := by unfold lnS; split <;> first | exact u04 _ | exact u07
theorem ujy (x : PV) : hfree (lnL x) := by unfold lnL; split <;> first | exact u04 _ | exact u07
theorem umn (x y : PV) : hfree (mn x y) := by unfold mn; split <;> repeat' (first | exact u04 _ | exact u07 | refine u10 ?_ ?_)
theorem umm (x y : PV) : hfree (mx x y) := by unfold mx; split <;> repeat' (first | exact u04 _ | exact u07 | refine u10 ?_ ?_)
theorem umd {x : PV} {b : Bool} {m : M PV} (h : hfree m) : hfree (gd x b m) := by
  unfold gd
  split
  · exact u10 h (u04 _)
  · exact u04 _
  · exact u07
theorem u8o {P : Program} {C : CallT} {rc : Option (Option PV)} {ops : Array Oper} {e : Env} {o : Oper} (hp : pureO o = true) : hfree (opVal P C rc ops e o) := by
  obtain ⟨dst, op, ty, pos, after, guard⟩ := o
  cases op with
  | move _ => exact u04 _
  | assign _ => exact u04 _
  | pick _ _ _ => exact uip _ _ _
  | extract _ _ => exact umt _ _
  | nilCheck _ => exact unb _ _
  | unOp _ _ _ => exact ums _ _
  | binOp _ _ _ _ _ => exact umg _ _ _ _
  | convert _ _ _ => unfold opVal; exact una _ _ _
  | makeInterface _ _ => exact u1l (umh _ _)
  | call cl =>
    obtain ⟨callee, args, tys⟩ := cl
    cases callee with
    | builtin b =>
      cases b <;> first | (simp [pureO] at hp; done) | skip
      all_goals
        unfold opVal u6y
        dsimp only
        repeat' (first | exact u04 _ | exact u07 | exact ujm _ | exact ujy _ | exact umn _ _ | exact umm _ _ | exact u1l (umf _ _ _ _ _) | (rename_i h _; cases h; done) | split)
    | _ => simp [pureO] at hp
  | fieldAddr _ _ _ | field _ _ _ | typeAssert _ _ _ _ | build _ _ | buildSlice _ _ _ | makeSlice _ _ _ | indexAddr _ _ _ | index _ _ _ =>
    unfold opVal
    dsimp only
    repeat' (first | exact u04 _ | exact u07 | exact u1l (ume _ _) | exact u1l (uhh _ _ _) | exact u1l (un8 _ _ _ _) | exact u1l (ucf _ _) | exact ult _ _ _ _ | exact ucf _ _ | exact u1l (um2 _ _ _) | exact u1l (un4 _ _ _ _ _) | exact u1l (ulb _ _ _ _) | exact u1l (ul7 _ _ _) | exact uly _ _ | exact u1l (ulo _ _ _ _ _) | split | refine u1l ?_)
  | _ => simp [pureO] at hp
theorem u6c {P : Program} {C : CallT} {rc : Option (Option PV)} {ops : Array Oper} {e : Env} {o : Oper} (hp : pureO o = true) : hfree (gval P C rc ops e o) := by
  unfold gval
  split
  · exact u8o hp
  · split
    · exact umd (u8o hp)
    · exact u07
def tmpO : Operand → Bool
  | .tmp _ => true
  | _ => false
theorem eff_of {o : Oper} {e : Env} {H H' : Heap} {v : PV} (hq : quietO o = true) (hg : gval c.P c.C c.rc ops e o H = some (.ok v H')) (hs : u14 o = false → H' = H) :
    ∃ f, EffW (touch e o) f ∧ H' = f H ∧ ∀ K, agreeT (touch e o) H K → gval c.P c.C c.rc ops e o K = some (.ok v (f K)) := by
  obtain ⟨dst, op, ty, pos, after, guard⟩ := o
  have other : touch e ⟨dst, op, ty, pos, after, guard⟩ = (bif pureO ⟨dst, op, ty, pos, after, guard⟩ then .no else .any) → u14 ⟨dst, op, ty, pos, after, guard⟩ = false →
      ∃ f, EffW (touch e ⟨dst, op, ty, pos, after, guard⟩) f ∧ H' = f H ∧ ∀ K, agreeT (touch e ⟨dst, op, ty, pos, after, guard⟩) H K → gval c.P c.C c.rc ops e ⟨dst, op, ty, pos, after, guard⟩ K = some (.ok v (f K)) := by
    intro ht hst
    cases hp : pureO ⟨dst, op, ty, pos, after, guard⟩ with
    | true => exact um7 (u6c hp) hg
    | false =>
      rw [hp] at ht
      have hH := hs hst
      subst hH
      refine ⟨fun K => K, .inl rfl, rfl, fun K hK => ?_⟩
      rw [ht] at hK
      have hK : K = H' := hK
      rw [hK]
      exact hg
  unfold quietO at hq
  cases op with
  | load t a =>
    cases guard with
    | some q => simp at hq
    | none =>
      clear other
      have e0 : gval c.P c.C c.rc ops e ⟨dst, .load t a, ty, pos, after, none⟩ = opVal c.P c.C c.rc ops e ⟨dst, .load t a, ty, pos, after, none⟩ := rfl
      rw [e0] at hg ⊢
      clear e0
      have hg : guardM (known c.P t) (ld (tagg c.P t) (moves ops ⟨dst, .load t a, ty, pos, after, none⟩) (ev e a)) H = some (.ok v H') := hg
      show ∃ f, EffW (tld (ev e a)) f ∧ H' = f H ∧ ∀ K, agreeT (tld (ev e a)) H K → guardM (known c.P t) (ld (tagg c.P t) (moves ops ⟨dst, .load t a, ty, pos, after, none⟩) (ev e a)) K = some (.ok v (f K))
      have hH := hs rfl
      generalize moves ops ⟨dst, .load t a, ty, pos, after, none⟩ = mv at hg ⊢
      generalize tagg c.P t = n at hg ⊢
      subst hH
      obtain ⟨hk, hg⟩ := u03 hg
      rw [hk]
      refine ⟨fun K => K, .inl rfl, rfl, fun K hK => ?_⟩
      show ld n mv (ev e a) K = _
      cases hv : ev e a with
      | ptr id off =>
        rw [hv] at hg hK
        have hK : K[id]? = H'[id]? := hK
        have hg : (match H'[id]? with
          | some (.cells cs) => match n with
            | none => match cs[off]? with
              | some v => bif mv then some (Out.ok v (H'.set id (.cells (cs.set off (stripC v))))) else some (.ok (stripC v) H')
              | none => none
            | some n => bif decide (off + n ≤ cs.length) then some (.ok (.agg (((cs.drop off).take n).map stripC)) H') else none
          | _ => none) = some (.ok v H') := hg
        show (match K[id]? with
          | some (.cells cs) => match n with
            | none => match cs[off]? with
              | some v => bif mv then some (Out.ok v (K.set id (.cells (cs.set off (stripC v))))) else some (.ok (stripC v) K)
              | none => none
            | some n => bif decide (off + n ≤ cs.length) then some (.ok (.agg (((cs.drop off).take n).map stripC)) K) else none
          | _ => none) = some (.ok v K)
        rw [hK]
        cases hb : H'[id]? with
        | none => rw [hb] at hg; cases hg
        | some bx =>
          rw [hb] at hg
          cases bx with
          | cells cs =>
            dsimp only at hg ⊢
            cases n with
            | none =>
              dsimp only at hg ⊢
              cases hc : cs[off]? with
              | none => rw [hc] at hg; cases hg
              | some u =>
                rw [hc] at hg
                dsimp only at hg ⊢
                cases mv with
                | false =>
                  simp only [cond_false, Option.some.injEq, Out.ok.injEq, and_true] at hg ⊢
                  exact hg
                | true =>
                  simp only [cond_true, Option.some.injEq, Out.ok.injEq] at hg ⊢
                  refine ⟨hg.1, ?_⟩
                  have h2 : (H'.set id (.cells (cs.set off (stripC u))))[id]? = H'[id]? := congrArg (fun l => l[id]?) hg.2
                  have hlt := (List.getElem?_eq_some_iff.mp hb).1
                  rw [List.getElem?_set_self hlt, hb] at h2
                  simp only [Option.some.injEq, Box.cells.injEq] at h2
                  rw [h2]
                  have hkb : K[id]? = some (.cells cs) := by rw [hK, hb]
                  obtain ⟨hl, hv⟩ := List.getElem?_eq_some_iff.mp hkb
                  rw [← hv]
                  exact List.set_getElem_self hl
            | some n =>
              dsimp only at hg ⊢
              cases hd : decide (off + n ≤ cs.length) with
              | false => rw [hd] at hg; cases hg
              | true =>
                rw [hd] at hg
                simp only [cond_true, Option.some.injEq, Out.ok.injEq, and_true] at hg ⊢
                exact hg
          | _ => cases hg
      | elem cs =>
        rw [hv] at hg
        have : hfree (ld n mv (.elem cs)) := by
          cases n with
          | none =>
            show hfree (match cs[0]? with | some v => M.pure v | none => M.fail)
            cases cs[0]? <;> first | exact u04 _ | exact u07
          | some n =>
            show hfree (bif decide (n ≤ cs.length) then M.pure _ else M.fail)
            cases decide (n ≤ cs.length) <;> first | exact u04 _ | exact u07
        exact (this _ _ _ hg).2 K
      | _ => rw [hv] at hg; exact (u00 (H := H') hg).elim
  | store t a x =>
    cases guard with
    | some q => simp at hq
    | none =>
      clear other
      have e0 : gval c.P c.C c.rc ops e ⟨dst, .store t a x, ty, pos, after, none⟩ = opVal c.P c.C c.rc ops e ⟨dst, .store t a x, ty, pos, after, none⟩ := rfl
      rw [e0] at hg ⊢
      clear e0
      have hg : guardM (known c.P t) (st (tsize c.P t) (tmpO x) (ev e a) (ev e x)) H = some (.ok v H') := hg
      show ∃ f, EffW (tst (ev e a)) f ∧ H' = f H ∧ ∀ K, agreeT (tst (ev e a)) H K → guardM (known c.P t) (st (tsize c.P t) (tmpO x) (ev e a) (ev e x)) K = some (.ok v (f K))
      generalize tmpO x = mv at hg ⊢
      generalize tsize c.P t = n at hg ⊢
      obtain ⟨hk, hg⟩ := u03 hg
      rw [hk]
      cases hv : ev e a with
      | ptr id off =>
        rw [hv] at hg
        generalize ev e x = u at hg ⊢
        have hg : (match H[id]? with
          | some (.cells cs) =>
            bif u.cells.length == n && (decide (off + n ≤ cs.length) && (lowL (id + 1) u.cells && u.cells.all isCell)) then
              some (Out.ok PV.undef (H.set id (.cells (fillAt off (bif mv then u.cells else u.cells.map stripC) cs))))
            else none
          | _ => none) = some (.ok v H') := hg
        cases hb : H[id]? with
        | none => rw [hb] at hg; cases hg
        | some bx =>
          rw [hb] at hg
          cases bx with
          | cells cs =>
            dsimp only at hg
            cases hd : (u.cells.length == n && (decide (off + n ≤ cs.length) && (lowL (id + 1) u.cells && u.cells.all isCell))) with
            | false => rw [hd] at hg; cases hg
            | true =>
              rw [hd] at hg
              simp only [cond_true, Option.some.injEq, Out.ok.injEq] at hg
              obtain ⟨rfl, rfl⟩ := hg
              refine ⟨fun K => K.set id (.cells (fillAt off (bif mv then u.cells else u.cells.map stripC) cs)), .inr ⟨id, _, rfl, rfl⟩, rfl, fun K hK => ?_⟩
              have hK : K[id]? = H[id]? := hK
              show (match K[id]? with
                | some (.cells cs) =>
                  bif u.cells.length == n && (decide (off + n ≤ cs.length) && (lowL (id + 1) u.cells && u.cells.all isCell)) then
                    some (Out.ok PV.undef (K.set id (.cells (fillAt off (bif mv then u.cells else u.cells.map stripC) cs))))
                  else none
                | _ => none) = _
              rw [hK, hb]
              dsimp only
              rw [hd]
              rfl
          | _ => cases hg
      | _ => rw [hv] at hg; exact (u00 (H := H) hg).elim
  | _ => exact other rfl rfl
theorem u4w {o : Oper} {e e' : Env} (h : u3i (o.looksAt ops) e e') : touch e o = touch e' o := by
  have hx := uhx h
  obtain ⟨dst, op, ty, pos, after, guard⟩ := o
  cases op <;> first | rfl | skip
  · rename_i t a
    show tld (ev e a) = tld (ev e' a)
    rw [hx a (by simp [Op.operands])]
  · rename_i t a x
    show tst (ev e a) = tst (ev e' a)
    rw [hx a (by simp [Op.operands])]
theorem uc8 {e : Env} {o : Oper} {n : Nat} : ¬ touch e o = .al n := by
  obtain ⟨dst, op, ty, pos, after, guard⟩ := o
  cases op with
  | load t a => show ¬ tld (ev e a) = _; cases ev e a <;> simp [tld]
  | store t a x => show ¬ tst (ev e a) = _; cases ev e a <;> simp [tst]
  | _ => unfold touch; dsimp only; cases pureO _ <;> simp
theorem swapW {x y : Oper} {e e1 e2 : Env} {H1 H2 : Heap} (hx : u08 x = false) (hy : u08 y = false) (ha : apartE ops x y = true) (hcl : clash (touch e1 y) (touch e x) = false)
    (h1 : StepW c ops H x e e1 H1) (h2 : StepW c ops H1 y e1 e2 H2) :
    ∃ e1' H1', StepW c ops H y e e1' H1' ∧ StepW c ops H1' x e1' e2 H2 ∧ touch e y = touch e1 y ∧ touch e1' x = touch e x := by
  obtain ⟨k1, q1, v, g1, rfl, s1⟩ := h1
  obtain ⟨k2, q2, u, g2, rfl, s2⟩ := h2
  unfold apartE at ha
  rw [Bool.or_eq_true] at ha
  rcases ha with ha | ha
  · obtain ⟨a1, a2, a3⟩ := u43 ha
    obtain ⟨fx, ex1, ex2, ex3⟩ := eff_of q1 g1 s1
    obtain ⟨fy, ey1, ey2, ey3⟩ := eff_of q2 g2 s2
    rw [u1b hx] at k2 g2 hcl ey1 ey3 ⊢
    rw [u1b hy]
    have agY : u3i (y.looksAt ops) (setAll e (u1m ops x e v)) e := fun t ht => u19 e _ fun p hp he => a1 p.1 (u0l p hp) (he ▸ ht)
    have agX : u3i (x.looksAt ops) (setAll e (u1m ops y e u)) e := fun t ht => u19 e _ fun p hp he => a3 p.1 (u0l p hp) (he ▸ ht)
    have tY : touch (setAll e (u1m ops x e v)) y = touch e y := u4w agY
    have tX : touch (setAll e (u1m ops y e u)) x = touch e x := u4w agX
    rw [tY] at hcl ey1 ey3
    have gY := u35 (P := c.P) (C := c.C) (rc := c.rc) hy agY
    have gX := u35 (P := c.P) (C := c.C) (rc := c.rc) hx agX
    have noc : ∀ {i b K}, touch e x = .st i → agreeT (touch e y) (K.set i b) K := by
      intro i b K h
      rw [h] at hcl
      cases hty : touch e y with
      | no => exact True.intro
      | ld j =>
        rw [hty] at hcl
        have hcl : (i == j) = false := hcl
        show K[j]? = (K.set i b)[j]?
        rw [List.getElem?_set_ne (by simpa using hcl)]
      | st j =>
        rw [hty] at hcl
        have hcl : (i == j) = false := hcl
        show K[j]? = (K.set i b)[j]?
        rw [List.getElem?_set_ne (by simpa using hcl)]
      | any => rw [hty] at hcl; cases hcl
      | al n => exact absurd hty uc8
    have noc2 : ∀ {j b K}, touch e y = .st j → agreeT (touch e x) K (K.set j b) := by
      intro j b K h
      rw [h] at hcl
      cases htx : touch e x with
      | no => exact True.intro
      | ld i =>
        rw [htx] at hcl
        have hcl : (i == j) = false := hcl
        have hne : i ≠ j := by simpa using hcl
        show (K.set j b)[i]? = K[i]?
        rw [List.getElem?_set_ne (fun h => hne h.symm)]
      | st i =>
        rw [htx] at hcl
        have hcl : (i == j) = false := hcl
        have hne : i ≠ j := by simpa using hcl
        show (K.set j b)[i]? = K[i]?
        rw [List.getElem?_set_ne (fun h => hne h.symm)]
      | any => rw [htx] at hcl; cases hcl
      | al n => exact absurd htx uc8
    have agr : ∀ {τ : Touch} {K : Heap}, agreeT τ K K := by
      intro τ K
      cases τ <;> first | exact True.intro | rfl
    have yH : gval c.P c.C c.rc ops e y H = some (.ok u (fy H)) := by
      rw [← gY]
      refine ey3 H ?_
      rw [ex2]
      rcases ex1 with rfl | ⟨i, b, h1, rfl⟩
      · exact agr
      · exact noc h1
    have xH : gval c.P c.C c.rc ops (setAll e (u1m ops y e u)) x (fy H) = some (.ok v (fx (fy H))) := by
      rw [gX]
      refine ex3 _ ?_
      rcases ey1 with rfl | ⟨j, b, h1, rfl⟩
      · exact agr
      · exact noc2 h1
    have hcomm : fx (fy H) = H2 := by
      rw [ey2, ex2]
      rcases ex1 with rfl | ⟨i, b, h1, rfl⟩
      · rfl
      · rcases ey1 with rfl | ⟨j, b', h2, rfl⟩
        · rfl
        · rw [h1, h2] at hcl
          have hcl : (i == j) = false := hcl
          have hne : i ≠ j := by simpa using hcl
          exact List.set_comm _ _ (fun h => hne h.symm)
    refine ⟨setAll e (u1m ops y e u), fy H, ⟨?_, q2, u, yH, (u1b hy).symm, fun hs => ?_⟩, ⟨?_, q1, v, ?_, ?_, fun hs => ?_⟩, tY.symm, tX⟩
    · rw [← k2]
      refine u1x (by rw [u1w]) fun t ht => (u19 e _ fun p hp he => ?_).symm
      refine a2 p.1 (u0l p hp) ?_
      rw [he]
      exact List.mem_append_left _ (by rw [ht]; simp)
    · rcases ey1 with rfl | ⟨j, b, h1, rfl⟩
      · rfl
      · exfalso
        obtain ⟨dst, op, ty, pos, after, guard⟩ := y
        cases op with
        | store t a x => cases hs
        | load t a =>
          have h1 : tld (ev e a) = .st j := h1
          cases hv : ev e a <;> rw [hv] at h1 <;> cases h1
        | _ =>
          revert h1
          unfold touch
          dsimp only
          cases pureO _ <;> intro h1 <;> cases h1
    · rw [← k1]
      refine u1x (by rw [u1w]) fun t ht => u19 e _ fun p hp he => ?_
      refine a2 t (List.mem_append_left _ (by rw [ht]; simp)) ?_
      rw [← he]
      exact u0l p hp
    · rw [xH, hcomm]
    · rw [u1b hx, u28 agX, u28 agY]
      exact u51 e _ _ fun p hp q hq he => a2 p.1 (u0l p hp) (he ▸ u0l q hq)
    · rw [← hcomm]
      rcases ex1 with rfl | ⟨i, b, h1, rfl⟩
      · rfl
      · exfalso
        obtain ⟨dst, op, ty, pos, after, guard⟩ := x
        cases op with
        | store t a x => cases hs
        | load t a =>
          have h1 : tld (ev e a) = .st i := h1
          cases hv : ev e a <;> rw [hv] at h1 <;> cases h1
        | _ =>
          revert h1
          unfold touch
          dsimp only
          cases pureO _ <;> intro h1 <;> cases h1
  · obtain ⟨r1, r2, r3, r4, r5, r6, r7, r8, r9⟩ := exSwap ha g1 g2 k1 k2
    subst r1 r2
    exact ⟨_, _, ⟨r3, q2, u, r5 _, rfl, fun _ => rfl⟩, ⟨r4, q1, v, r6 _, r7.symm, fun _ => rfl⟩, by rw [r9, r9], by rw [r8, r8]⟩
def RunW (c : Ctx) (ops : Array Oper) : List (Nat × Touch) → Env → Heap → Env → Heap → Prop
  | [], e, H, e', H' => e = e' ∧ H = H'
  | (i, τ) :: r, e, H, e', H' => ∃ o e1 H1, ops[i]? = some o ∧ touch e o = τ ∧ StepW c ops H o e e1 H1 ∧ RunW c ops r e1 H1 e' H'
theorem frontW {i : Nat} {τ : Touch} {oi : Oper} (hi : ops[i]? = some oi) (hri : u08 oi = false) (hr : ∀ (j : Nat) (o : Oper), ops[j]? = some o → u08 o = false) : ∀ (A B : List (Nat × Touch)) (e e' : Env) (H H' : Heap),
    (∀ a ∈ A, (∀ oa, ops[a.1]? = some oa → apartE ops oa oi = true) ∧ clash τ a.2 = false) → RunW c ops (A ++ (i, τ) :: B) e H e' H' → RunW c ops ((i, τ) :: (A ++ B)) e H e' H'
  | [], B, e, e', H, H', ha, h => h
  | (a, σ) :: A, B, e, e', H, H', ha, h => by
    obtain ⟨oa, e1, H1, hoa, hta, hs, hrun⟩ := h
    obtain ⟨o, e2, H2, ho, hto, hs2, hrun2⟩ := frontW hi hri hr A B e1 e' H1 H' (fun b hb => ha b (List.mem_cons_of_mem _ hb)) hrun
    rw [hi] at ho
    cases ho
    obtain ⟨b1, b2⟩ := ha (a, σ) List.mem_cons_self
    obtain ⟨e1', H1', s1, s2, t1, t2⟩ := swapW (hr a oa hoa) hri (b1 oa hoa) (by rw [hto, hta]; exact b2) hs hs2
    exact ⟨oi, e1', H1', hi, t1.trans hto, s1, oa, e2, H2, hoa, t2.trans hta, s2, hrun2⟩
theorem un2 {m : M PV} {f : PV → M PV} {H : Heap} {out : Out PV} (h : M.bind (noPan m) f H = some out) : ∃ v H', m H = some (.ok v H') ∧ f v H' = some out := by
  unfold M.bind noPan at h
  cases hm : m H with
  | none => rw [hm] at h; cases h
  | some q =>
    rw [hm] at h
    cases q with
    | ok v H' => exact ⟨v, H', rfl, h⟩
    | pan v H' => cases h
theorem ufh {k : Env → M PV} {out : Out PV} : ∀ (l : List Oper) (ts : List (Nat × Touch)) (i : Nat) (env : Env) (H : Heap), (∀ j, l[j]? = ops[i + j]?) → dOpsW c ops i ts l env k H = some out →
    ∃ e' H' L, L.map Prod.fst = List.range' i l.length ∧ (∀ q ∈ L, ∀ t ∈ ts, ((befs ops.toList []).getD q.1 0).testBit t.1 = true ∨ clash q.2 t.2 = false) ∧ L.Pairwise (fun x y => ((befs ops.toList []).getD y.1 0).testBit x.1 = true ∨ clash y.2 x.2 = false) ∧ RunW c ops L env H e' H' ∧ k e' H' = some out
  | [], ts, i, env, H, hl, h => ⟨env, H, [], rfl, (fun q hq => by cases hq), List.Pairwise.nil, ⟨rfl, rfl⟩, h⟩
  | o :: r, ts, i, env, H, hl, h => by
    unfold dOpsW at h
    obtain ⟨hok, h⟩ := u03 h
    unfold ukf at hok
    simp only [Bool.and_eq_true, List.all_eq_true, Bool.or_eq_true, Bool.not_eq_true'] at hok
    obtain ⟨hok, hq, hcl⟩ := hok
    have ho : ops[i]? = some o := by
      have := hl 0
      simpa using this.symm
    have hr : ∀ j, r[j]? = ops[i + 1 + j]? := fun j => by
      have := hl (j + 1)
      rw [List.getElem?_cons_succ] at this
      rw [this]
      congr 1
      omega
    have key : ∃ v H1, gval c.P c.C c.rc ops env o H = some (.ok v H1) ∧ (u14 o = false → H1 = H) ∧ dOpsW c ops (i + 1) ((i, touch env o) :: ts) r (put c.rc ops env o v) k H1 = some out := by
      cases hst : u14 o with
      | true =>
        rw [hst] at h
        obtain ⟨v, H1, h1, h2⟩ := un2 h
        exact ⟨v, H1, h1, (fun h => nomatch h), h2⟩
      | false =>
        rw [hst] at h
        obtain ⟨v, h1, h2⟩ := nb_some.mp h
        exact ⟨v, H, h1, fun _ => rfl, h2⟩
    obtain ⟨v, H1, hg, hs, h2⟩ := key
    obtain ⟨e', H', L, l1, l2, l3, l4, l5⟩ := ufh r ((i, touch env o) :: ts) (i + 1) _ H1 hr h2
    refine ⟨e', H', (i, touch env o) :: L, ?_, fun q hq t ht => ?_, List.pairwise_cons.mpr ⟨fun q hq => l2 q hq _ List.mem_cons_self, l3⟩, ⟨o, _, H1, ho, rfl, ⟨hok, hq, v, hg, rfl, hs⟩, l4⟩, l5⟩
    · rw [List.map_cons, l1]; rfl
    · rcases List.mem_cons.mp hq with rfl | hq
      · exact hcl t ht
      · exact l2 q hq t (List.mem_cons_of_mem _ ht)
def RW (c : Ctx) (ops : Array Oper) (e' : Env) (H' : Heap) (l : List Nat) (e : Env) (H : Heap) : Prop :=
  ∃ L : List (Nat × Touch), L.map Prod.fst = l ∧ L.Pairwise (fun x y => ((befs ops.toList []).getD y.1 0).testBit x.1 = true ∨ clash y.2 x.2 = false) ∧ RunW c ops L e H e' H'
theorem RW.front (hcm : commB ops = true) {e' : Env} {H' : Heap} (A : List Nat) (i : Nat) (B : List Nat) (oi : Oper) (e : Env) (H : Heap) (hi : ops[i]? = some oi) (ha : ∀ a ∈ A, ∀ oa, ops[a]? = some oa → apartE ops oa oi = true)
    (hnb : ∀ k ∈ A ++ B, ((befs ops.toList []).getD i 0).testBit k = false) (hR : RW c ops e' H' (A ++ i :: B) e H) : okDst c.rc.isSome c.prot e oi.dst = true ∧ ∃ v H1, gval c.P c.C c.rc ops e oi H = some (.ok v H1) ∧ RW c ops e' H' (A ++ B) (put c.rc ops e oi v) H1 := by
  obtain ⟨L, h1, h2, h3⟩ := hR
  obtain ⟨LA, LB, rfl, hA, hB⟩ := List.map_eq_append_iff.mp h1
  cases LB with
  | nil => cases hB
  | cons q LB =>
    obtain ⟨j, τ⟩ := q
    simp only [List.map_cons, List.cons.injEq] at hB
    obtain ⟨rfl, hB⟩ := hB
    have hp := List.pairwise_append.mp h2
    obtain ⟨o, e1, H1, ho, hto, ⟨hok, hq, v, hg, rfl, hs⟩, hrun⟩ := frontW hi (u1r hcm hi).1 (fun j o hj => (u1r hcm hj).1) LA LB e e' H H' (fun a ham => ⟨fun oa hoa => ha a.1 (by rw [← hA]; exact List.mem_map_of_mem ham) oa hoa, (hp.2.2 a ham _ List.mem_cons_self).resolve_left (by rw [hnb a.1 (List.mem_append_left _ (by rw [← hA]; exact List.mem_map_of_mem ham))]; simp)⟩) h3
    rw [hi] at ho
    cases ho
    refine ⟨hok, v, H1, hg, LA ++ LB, by rw [List.map_append, hA, hB], ?_, hrun⟩
    refine List.pairwise_append.mpr ⟨hp.1, (List.pairwise_cons.mp hp.2.1).2, fun a ha b hb => hp.2.2 a ha b (List.mem_cons_of_mem _ hb)⟩
theorem RW.nil {e' e : Env} {H' H : Heap} (h : RW c ops e' H' [] e H) : e = e' ∧ H = H' := by
  obtain ⟨L, h1, h2, h3⟩ := h
  cases L with
  | nil => exact h3
  | cons q r => cases h1
def StepL (c : Ctx) (ops : Array Oper) (H : Heap) (o : Oper) (e e' : Env) (H' : Heap) : Prop :=
  okDst c.rc.isSome c.prot e o.dst = true ∧ ∃ v, gval c.P c.C c.rc ops e o H = some (.ok v H') ∧ e' = put c.rc ops e o v
def RunL (c : Ctx) (ops : Array Oper) : List Nat → Env → Heap → Env → Heap → Prop
  | [], e, H, e', H' => e = e' ∧ H = H'
  | i :: r, e, H, e', H' => ∃ o e1 H1, ops[i]? = some o ∧ StepL c ops H o e e1 H1 ∧ RunL c ops r e1 H1 e' H'
theorem udg {o : Oper} {e : Env} {H H' : Heap} {v : PV} (hp : keepO ops o = true) (h : gval c.P c.C c.rc ops e o H = some (.ok v H')) : H' = H := by
  unfold keepO at hp
  rw [Bool.or_eq_true] at hp
  rcases hp with hp | hp
  · exact (u6c hp _ _ _ h).1
  · obtain ⟨dst, op, ty, pos, after, guard⟩ := o
    cases op with
    | load t a =>
      have hm : moves ops ⟨dst, .load t a, ty, pos, after, guard⟩ = false := by simpa using hp
      have one : ∀ {u : PV} {K : Heap}, opVal c.P c.C c.rc ops e ⟨dst, .load t a, ty, pos, after, guard⟩ H = some (.ok u K) → K = H := by
        intro u K hg
        have hg : guardM (known c.P t) (ld (tagg c.P t) (moves ops ⟨dst, .load t a, ty, pos, after, guard⟩) (ev e a)) H = some (.ok u K) := hg
        obtain ⟨_, hg⟩ := u03 hg
        rw [hm] at hg
        generalize tagg c.P t = n at hg
        cases ha : ev e a with
        | ptr id off =>
          rw [ha] at hg
          have hg : (match H[id]? with
            | some (.cells cs) => match n with
              | none => match cs[off]? with
                | some v => bif false then some (Out.ok v (H.set id (.cells (cs.set off (stripC v))))) else some (.ok (stripC v) H)
                | none => none
              | some n => bif decide (off + n ≤ cs.length) then some (.ok (.agg (((cs.drop off).take n).map stripC)) H) else none
            | _ => none) = some (.ok u K) := hg
          cases hb : H[id]? with
          | none => rw [hb] at hg; cases hg
          | some bx =>
            rw [hb] at hg
            cases bx with
            | cells cs =>
              cases n with
              | none =>
                dsimp only at hg
                cases hc : cs[off]? with
                | none => rw [hc] at hg; cases hg
                | some w =>
                  rw [hc] at hg
                  simp only [cond_false, Option.some.injEq, Out.ok.injEq] at hg
                  exact hg.2.symm
              | some n =>
                dsimp only at hg
                cases hd : decide (off + n ≤ cs.length) with
                | false => rw [hd] at hg; cases hg
                | true =>
                  rw [hd] at hg
                  simp only [cond_true, Option.some.injEq, Out.ok.injEq] at hg
                  exact hg.2.symm
            | _ => cases hg
        | elem cs =>
          rw [ha] at hg
          cases n with
          | none =>
            have hg : (match cs[0]? with | some v => M.pure v | none => M.fail) H = some (.ok u K) := hg
            cases hc : cs[0]? with
            | none => rw [hc] at hg; exact (u00 (H := H) hg).elim
            | some w => rw [hc] at hg; exact (u04 w _ _ _ hg).1
          | some n => exact (u10 (u04 _) u07 _ _ _ hg).1
        | _ => rw [ha] at hg; exact (u00 (H := H) hg).elim
      unfold gval at h
      cases guard with
      | none => exact one h
      | some jw =>
        obtain ⟨j, want⟩ := jw
        dsimp only at h
        cases hd : (ops[j]?).bind (·.dst) with
        | none => rw [hd] at h; exact (u00 (H := H) h).elim
        | some d =>
          rw [hd] at h
          dsimp only at h
          generalize e.getD d .undef = u at h
          cases u with
          | bool b =>
            have h : (bif b == want then opVal c.P c.C c.rc ops e ⟨dst, .load t a, ty, pos, after, some (j, want)⟩ else M.pure (.tup [])) H = some (.ok v H') := h
            cases hb : (b == want) with
            | true => rw [hb] at h; exact one h
            | false => rw [hb] at h; exact (u04 _ _ _ _ h).1
          | tup vs =>
            cases vs with
            | nil => exact (u04 _ _ _ _ h).1
            | cons x y => exact (u00 (H := H) h).elim
          | _ => exact (u00 (H := H) h).elim
    | _ => simp at hp
theorem swapL {x y : Oper} {e e1 e2 : Env} {H1 H2 : Heap} (hx : u08 x = false) (hy : u08 y = false) (ha : apartE ops x y = true) (hp : (pureO x = true ∨ pureO y = true) ∨ (keepO ops x = true ∧ keepO ops y = true))
    (h1 : StepL c ops H x e e1 H1) (h2 : StepL c ops H1 y e1 e2 H2) : ∃ e1' H1', StepL c ops H y e e1' H1' ∧ StepL c ops H1' x e1' e2 H2 := by
  obtain ⟨k1, v, g1, rfl⟩ := h1
  obtain ⟨k2, u, g2, rfl⟩ := h2
  unfold apartE at ha
  rw [Bool.or_eq_true] at ha
  rcases ha with ha | ha
  · obtain ⟨a1, a2, a3⟩ := u43 ha
    rw [u1b hx] at k2 g2 ⊢
    rw [u1b hy]
    have agY : u3i (y.looksAt ops) (setAll e (u1m ops x e v)) e := fun t ht => u19 e _ fun p hp he => a1 p.1 (u0l p hp) (he ▸ ht)
    have agX : u3i (x.looksAt ops) (setAll e (u1m ops y e u)) e := fun t ht => u19 e _ fun p hp he => a3 p.1 (u0l p hp) (he ▸ ht)
    have gY := u35 (P := c.P) (C := c.C) (rc := c.rc) hy agY
    have gX := u35 (P := c.P) (C := c.C) (rc := c.rc) hx agX
    rw [gY] at g2
    have key : ∃ H1', gval c.P c.C c.rc ops e y H = some (.ok u H1') ∧ gval c.P c.C c.rc ops e x H1' = some (.ok v H2) := by
      rcases hp with (hp | hp) | ⟨p1, p2⟩
      · obtain ⟨rfl, h3⟩ := u6c hp _ _ _ g1
        exact ⟨H2, g2, h3 H2⟩
      · obtain ⟨rfl, h3⟩ := u6c hp _ _ _ g2
        exact ⟨H, h3 H, g1⟩
      · have e1 := udg p1 g1
        subst e1
        have e2 := udg p2 g2
        subst e2
        exact ⟨_, g2, g1⟩
    obtain ⟨H1', y1, x1⟩ := key
    refine ⟨setAll e (u1m ops y e u), H1', ⟨?_, u, y1, (u1b hy).symm⟩, ⟨?_, v, by rw [gX]; exact x1, ?_⟩⟩
    · rw [← k2]
      refine u1x (by rw [u1w]) fun t ht => (u19 e _ fun p hp he => ?_).symm
      refine a2 p.1 (u0l p hp) ?_
      rw [he]
      exact List.mem_append_left _ (by rw [ht]; simp)
    · rw [← k1]
      refine u1x (by rw [u1w]) fun t ht => u19 e _ fun p hp he => ?_
      refine a2 t (List.mem_append_left _ (by rw [ht]; simp)) ?_
      rw [← he]
      exact u0l p hp
    · rw [u1b hx, u28 agX, u28 agY]
      exact u51 e _ _ fun p hp q hq he => a2 p.1 (u0l p hp) (he ▸ u0l q hq)
  · obtain ⟨r1, r2, r3, r4, r5, r6, r7, r8, r9⟩ := exSwap ha g1 g2 k1 k2
    subst r1 r2
    exact ⟨_, _, ⟨r3, u, r5 _, rfl⟩, ⟨r4, v, r6 _, r7.symm⟩⟩
def Swap (ops : Array Oper) (i j : Nat) : Prop := ∀ x y, ops[i]? = some x → ops[j]? = some y → u08 x = false ∧ u08 y = false ∧ apartE ops x y = true ∧ ((pureO x = true ∨ pureO y = true) ∨ (keepO ops x = true ∧ keepO ops y = true))
theorem frontL {i : Nat} : ∀ (A B : List Nat) (e e' : Env) (H H' : Heap), (∀ a ∈ A, Swap ops a i) → RunL c ops (A ++ i :: B) e H e' H' → RunL c ops (i :: (A ++ B)) e H e' H'
  | [], B, e, e', H, H', ha, h => h
  | a :: A, B, e, e', H, H', ha, h => by
    obtain ⟨oa, e1, H1, hoa, hs, hrun⟩ := h
    obtain ⟨oi, e2, H2, hi, hs2, hrun2⟩ := frontL A B e1 e' H1 H' (fun b hb => ha b (List.mem_cons_of_mem _ hb)) hrun
    obtain ⟨b1, b2, b3, b4⟩ := ha a List.mem_cons_self oa oi hoa hi
    obtain ⟨e1', H1', s1, s2⟩ := swapL b1 b2 b3 b4 hs hs2
    exact ⟨oi, e1', H1', hi, s1, oa, e2, H2, hoa, s2, hrun2⟩
theorem sortL : ∀ (τ σ : List Nat) (e e' : Env) (H H' : Heap), τ.Nodup → σ.Perm τ → (∀ x y, [x, y].Sublist σ → [y, x].Sublist τ → Swap ops x y) → RunL c ops σ e H e' H' → RunL c ops τ e H e' H'
  | [], σ, e, e', H, H', hn, hp, hs, h => by
    have := hp.eq_nil
    subst this
    exact h
  | i :: τ, σ, e, e', H, H', hn, hp, hs, h => by
    have hi : i ∈ σ := hp.mem_iff.mpr List.mem_cons_self
    obtain ⟨A, B, rfl⟩ := List.append_of_mem hi
    have hp2 : (A ++ B).Perm τ := by
      have h1 : (i :: (A ++ B)).Perm (i :: τ) := List.perm_middle.symm.trans hp
      exact h1.cons_inv
    have hn2 := List.nodup_cons.mp hn
    obtain ⟨o, e1, H1, ho, hst, hrun⟩ := frontL A B e e' H H' (fun a ha => by
      refine hs a i ?_ ?_
      · obtain ⟨A1, A2, rfl⟩ := List.append_of_mem ha
        have : [a, i] = [a] ++ [i] := rfl
        rw [this]
        refine List.Sublist.append ?_ ?_
        · exact List.singleton_sublist.mpr ha
        · exact List.singleton_sublist.mpr List.mem_cons_self
      · refine List.Sublist.cons_cons _ (List.singleton_sublist.mpr ?_)
        exact hp2.mem_iff.mp (List.mem_append_left _ ha)) h
    refine ⟨o, e1, H1, ho, hst, sortL τ (A ++ B) e1 e' H1 H' hn2.2 hp2 (fun x y h1 h2 => hs x y ?_ (h2.trans (List.sublist_cons_self _ _))) hrun⟩
    exact h1.trans (List.Sublist.append (List.Sublist.refl _) (List.sublist_cons_self _ _))
theorem u5z {b : List Nat} : ∀ {l : List Nat} {x y : Nat}, consB b l = true → [x, y].Sublist l → (b.getD x 0).testBit y = false
  | i :: r, x, y, h, hs => by
    unfold consB at h
    simp only [Bool.and_eq_true, List.all_eq_true, Bool.not_eq_true'] at h
    cases hs with
    | cons _ hs => exact u5z h.2 hs
    | cons_cons _ hs => exact h.1 y (List.singleton_sublist.mp hs)
theorem ugh {b : List Nat} : ∀ {l : List Nat}, (∀ x y, [x, y].Sublist l → (b.getD x 0).testBit y = false) → consB b l = true
  | [], h => rfl
  | i :: r, h => by
    unfold consB
    simp only [Bool.and_eq_true, List.all_eq_true, Bool.not_eq_true']
    exact ⟨fun y hy => h i y (List.Sublist.cons_cons _ (List.singleton_sublist.mpr hy)), ugh fun x y hs => h x y (hs.trans (List.sublist_cons_self _ _))⟩
theorem ue5 {b l l' : List Nat} (h : consB b l = true) (hs : l'.Sublist l) : consB b l' = true := ugh fun x y h2 => u5z h (h2.trans hs)
theorem u7c : ∀ {l : List Nat} {x y : Nat}, l.Nodup → [y, x].Sublist l → ual l x y = false
  | z :: r, x, y, hn, hs => by
    have hn2 := List.nodup_cons.mp hn
    unfold ual
    cases hs with
    | cons _ hs =>
      have hx : x ∈ r := hs.subset (by simp)
      have hy : y ∈ r := hs.subset (by simp)
      have h1 : (z == x) = false := by
        simp only [beq_eq_false_iff_ne, ne_eq]
        intro h; subst h; exact hn2.1 hx
      have h2 : (z == y) = false := by
        simp only [beq_eq_false_iff_ne, ne_eq]
        intro h; subst h; exact hn2.1 hy
      rw [h1, h2]
      exact u7c hn2.2 hs
    | cons_cons _ hs =>
      have hx : x ∈ r := hs.subset (by simp)
      have h1 : (z == x) = false := by
        simp only [beq_eq_false_iff_ne, ne_eq]
        intro h; subst h; exact hn2.1 hx
      rw [h1]
      simp
theorem u9l {π : List Nat} : ∀ {l : List Nat} {x y : Nat}, closeB ops l π = true → [x, y].Sublist l → ual π x y = true ∨ (keepI ops x = true ∧ keepI ops y = true)
  | i :: r, x, y, h, hs => by
    unfold closeB at h
    simp only [Bool.and_eq_true, List.all_eq_true, Bool.or_eq_true] at h
    cases hs with
    | cons _ hs => exact u9l h.2 hs
    | cons_cons _ hs => exact h.1 y (List.singleton_sublist.mp hs)
theorem uke : ∀ (τ l : List Nat), τ.Perm l → τ ∈ arr l.length l
  | [], l, h => by
    have := h.symm.eq_nil
    subst this
    exact List.mem_singleton.mpr rfl
  | i :: τ, l, h => by
    have hi : i ∈ l := h.mem_iff.mp List.mem_cons_self
    have h2 : τ.Perm (l.erase i) := (List.cons_perm_iff_perm_erase.mp h).2
    have hl : l.length = (l.erase i).length + 1 := by rw [List.length_erase_of_mem hi]; have := List.length_pos_of_mem hi; omega
    rw [hl]
    unfold arr
    exact List.mem_flatMap.mpr ⟨i, hi, List.mem_map.mpr ⟨τ, uke τ _ h2, rfl⟩⟩
theorem u5o {α : Type} {b : Bool} {m : M α} {H : Heap} {out : Out α} (h : guardM b m H = some out) : b = true ∧ m H = some out := by
  cases b
  · exact (by cases h)
  · exact ⟨rfl, h⟩
theorem uah : ∀ (l s : List Nat), l.Nodup → (∀ i ∈ l, i ∈ s) → s.length ≤ l.length → s.Perm l
  | [], s, hn, hs, hl => by
    have : s = [] := List.eq_nil_of_length_eq_zero (by simpa using hl)
    subst this
    exact List.Perm.refl _
  | a :: r, s, hn, hs, hl => by
    have hn2 := List.nodup_cons.mp hn
    have ha : a ∈ s := hs a List.mem_cons_self
    have h1 : s.Perm (a :: s.erase a) := List.perm_cons_erase ha
    refine h1.trans (List.Perm.cons a (uah r (s.erase a) hn2.2 (fun i hi => ?_) ?_))
    · refine (List.mem_erase_of_ne (fun h => ?_)).mpr (hs i (List.mem_cons_of_mem _ hi))
      subst h
      exact hn2.1 hi
    · rw [List.length_erase_of_mem ha]
      simp only [List.length_cons] at hl
      omega
theorem u63 {β : Type} {k : Env → M β} {out : Out β} : ∀ (l : List Nat) (e : Env) (H : Heap), dOpsL c ops l e k H = some out → ∃ e' H', RunL c ops l e H e' H' ∧ k e' H' = some out
  | [], e, H, h => ⟨e, H, ⟨rfl, rfl⟩, h⟩
  | i :: r, e, H, h => by
    unfold dOpsL at h
    cases ho : ops[i]? with
    | none => rw [ho] at h; exact (u00 (H := H) h).elim
    | some o =>
      rw [ho] at h
      dsimp only at h
      obtain ⟨hok, h⟩ := u5o h
      have : ∃ v H1, gval c.P c.C c.rc ops e o H = some (.ok v H1) ∧ dOpsL c ops r (put c.rc ops e o v) k H1 = some out := by
        unfold M.bind noPan at h
        cases hm : gval c.P c.C c.rc ops e o H with
        | none => rw [hm] at h; cases h
        | some q =>
          rw [hm] at h
          cases q with
          | ok v H' => exact ⟨v, H', rfl, h⟩
          | pan v H' => cases h
      obtain ⟨v, H1, h1, h2⟩ := this
      obtain ⟨e', H', r1, r2⟩ := u63 r _ _ h2
      exact ⟨e', H', ⟨o, _, H1, ho, ⟨hok, v, h1, rfl⟩, r1⟩, r2⟩
theorem udo {σ0 : List Nat} {e : Env} {out : Out PV} : ∀ (l : List (List Nat)) {x : M PV}, chkL c ops e σ0 l x H = some out → x H = some out ∧ ∀ σ ∈ l, ∃ e' H', RunL c ops σ e H e' H' ∧ RunL c ops σ0 e H e' H'
  | [], x, h => ⟨h, fun σ hs => by cases hs⟩
  | σ :: r, x, h => by
    obtain ⟨a, K, h1, h2, h3⟩ := chk_some.mp h
    obtain ⟨r1, r2⟩ := udo r h3
    refine ⟨r1, fun σ' hs => ?_⟩
    rcases List.mem_cons.mp hs with rfl | hs
    · obtain ⟨e1, H1, q1, q2⟩ := u63 _ _ _ h1
      obtain ⟨e2, H2, q3, q4⟩ := u63 _ _ _ h2
      simp only [M.pure, Option.some.injEq, Out.ok.injEq] at q2 q4
      obtain ⟨rfl, rfl⟩ := q2
      obtain ⟨rfl, rfl⟩ := q4
      exact ⟨_, _, q1, q3⟩
    · exact r2 σ' hs
theorem RunL.det : ∀ {l : List Nat} {e e1 e2 : Env} {H H1 H2 : Heap}, RunL c ops l e H e1 H1 → RunL c ops l e H e2 H2 → e1 = e2 ∧ H1 = H2
  | [], e, e1, e2, H, H1, H2, h, k => ⟨h.1.symm.trans k.1, h.2.symm.trans k.2⟩
  | i :: r, e, e1, e2, H, H1, H2, h, k => by
    obtain ⟨o, x, K, ho, ⟨_, v, hg, rfl⟩, hr⟩ := h
    obtain ⟨o', x', K', ho', ⟨_, v', hg', rfl⟩, hr'⟩ := k
    rw [ho] at ho'
    cases ho'
    rw [hg] at hg'
    cases hg'
    exact RunL.det hr hr'
def RL (c : Ctx) (ops : Array Oper) (e' : Env) (H' : Heap) (l : List Nat) (e : Env) (H : Heap) : Prop :=
  l.Nodup ∧ consB (befs ops.toList []) l = true ∧ ∀ τ : List Nat, τ.Perm l → consB (befs ops.toList []) τ = true → RunL c ops τ e H e' H'
theorem RL.front {e' : Env} {H' : Heap} (A : List Nat) (i : Nat) (B : List Nat) (oi : Oper) (e : Env) (H : Heap) (hi : ops[i]? = some oi) (hnb : ∀ k ∈ A ++ B, ((befs ops.toList []).getD i 0).testBit k = false)
    (hR : RL c ops e' H' (A ++ i :: B) e H) : okDst c.rc.isSome c.prot e oi.dst = true ∧ ∃ v H1, gval c.P c.C c.rc ops e oi H = some (.ok v H1) ∧ RL c ops e' H' (A ++ B) (put c.rc ops e oi v) H1 := by
  obtain ⟨h1, h2, h3⟩ := hR
  have hsub : (A ++ B).Sublist (A ++ i :: B) := List.Sublist.append (List.Sublist.refl _) (List.sublist_cons_self _ _)
  have hcB : consB (befs ops.toList []) (A ++ B) = true := ue5 h2 hsub
  have key : ∀ τ : List Nat, τ.Perm (A ++ B) → consB (befs ops.toList []) τ = true → RunL c ops (i :: τ) e H e' H' := by
    intro τ hp hc
    refine h3 _ ((List.Perm.cons i hp).trans List.perm_middle.symm) ?_
    unfold consB
    simp only [Bool.and_eq_true, List.all_eq_true, Bool.not_eq_true']
    exact ⟨fun j hj => hnb j (hp.mem_iff.mp hj), hc⟩
  obtain ⟨o, e1, H1, ho, ⟨hok, v, hg, rfl⟩, hrun⟩ := key _ (List.Perm.refl _) hcB
  rw [hi] at ho
  cases ho
  refine ⟨hok, v, H1, hg, h1.sublist hsub, hcB, fun τ hp hc => ?_⟩
  obtain ⟨o', e2, H2, ho', ⟨_, v', hg', rfl⟩, hrun'⟩ := key τ hp hc
  rw [hi] at ho'
  cases ho'
  rw [hg] at hg'
  cases hg'
  exact hrun'
theorem RL.nil {e' e : Env} {H' H : Heap} (h : RL c ops e' H' [] e H) : e = e' ∧ H = H' := h.2.2 [] (List.Perm.refl _) rfl
theorem u8z (hcm : commB ops = true) {n : Nat} {e : Env} {k : Env → M PV} {out : Out PV} (h : dOpsPN c ops n e k H = some out) : ∃ e' H', RL c ops e' H' (List.range n) e H ∧ k e' H' = some out := by
  unfold dOpsPN at h
  obtain ⟨hg, h⟩ := u03 h
  generalize hords : ordsN ops n = ords at hg h
  cases ords with
  | nil => exact (u00 (H := H) h).elim
  | cons σ0 r =>
    dsimp only at h
    obtain ⟨h1, h2⟩ := udo r h
    obtain ⟨e', H', r0, hk⟩ := u63 _ _ _ h1
    refine ⟨e', H', ⟨List.nodup_range, ?_, fun τ hp hc => ?_⟩, hk⟩
    · unfold goodP at hg
      simp only [Bool.and_eq_true] at hg
      exact hg.1
    · unfold goodP at hg
      simp only [Bool.and_eq_true, List.all_eq_true, Bool.or_eq_true, beq_iff_eq, Bool.not_eq_true', List.any_eq_true] at hg
      obtain ⟨_, g2, g3, g4⟩ := hg
      have hperm : ∀ σ ∈ σ0 :: r, σ.Perm (List.range n) := by
        intro σ hs
        obtain ⟨a1, a2, a3⟩ := g2 σ hs
        exact uah _ _ List.nodup_range (fun i hi => by simpa using a2 i hi) (by simp [a1])
      have hn : τ.Nodup := hp.nodup_iff.mpr List.nodup_range
      have hpi : (τ.filter (isHeap ops)).Perm ((List.range n).filter (isHeap ops)) := hp.filter _
      obtain ⟨σ, hσ, hσf⟩ : ∃ σ ∈ σ0 :: r, closeB ops (σ.filter (isHeap ops)) (τ.filter (isHeap ops)) = true := by
        rcases g3 _ (uke _ _ hpi) with h | ⟨σ, hs, h⟩
        · have := ue5 hc (List.filter_sublist (p := isHeap ops))
          rw [this] at h
          cases h
        · exact ⟨σ, hs, h⟩
      have hrun : RunL c ops σ e H e' H' := by
        rcases List.mem_cons.mp hσ with rfl | hs
        · exact r0
        · obtain ⟨e2, H2, q1, q2⟩ := h2 σ hs
          obtain ⟨rfl, rfl⟩ := q2.det r0
          exact q1
      refine sortL τ σ e e' H H' hn ((hperm σ hσ).trans hp.symm) (fun x y s1 s2 => ?_) hrun
      have hcσ := (g2 σ hσ).2.2
      have b1 := u5z hcσ s1
      have b2 := u5z hc s2
      have hxy : x ≠ y := by
        have hnσ : σ.Nodup := (hperm σ hσ).nodup_iff.mpr List.nodup_range
        have := (s1.nodup hnσ)
        intro h
        subst h
        simp at this
      have hx : x < n := List.mem_range.mp ((hperm σ hσ).mem_iff.mp (s1.subset (by simp)))
      have hy : y < n := List.mem_range.mp ((hperm σ hσ).mem_iff.mp (s1.subset (by simp)))
      have both : isHeap ops x = true ∧ isHeap ops y = true → keepI ops x = true ∧ keepI ops y = true := by
        rintro ⟨p, q⟩
        have f1 : ([x, y].filter (isHeap ops)).Sublist (σ.filter (isHeap ops)) := s1.filter _
        have f2 : ([y, x].filter (isHeap ops)).Sublist (τ.filter (isHeap ops)) := s2.filter _
        simp only [List.filter_cons, p, q, if_true, List.filter_nil] at f1 f2
        rcases u9l hσf f1 with h | h
        · rw [u7c (hn.filter _) f2] at h; cases h
        · exact h
      have pr : ∀ {z oz}, ops[z]? = some oz → isHeap ops z = false → pureO oz = true := by
        intro z oz hz hh
        unfold isHeap isPure at hh
        rw [hz] at hh
        simpa using hh
      have sym : ∀ {u v : Oper}, apartE ops u v = true → apartE ops v u = true := by
        intro u v h
        unfold apartE at h ⊢
        rw [Bool.or_eq_true] at h ⊢
        rcases h with h | h
        · left
          obtain ⟨q1, q2, q3⟩ := u43 h
          unfold apartN
          simp only [Bool.and_eq_true, List.all_eq_true, Bool.not_eq_true', List.contains_eq_mem, decide_eq_false_iff_not]
          exact ⟨fun t ht => ⟨q3 t ht, fun h => q2 t h ht⟩, fun t ht => q1 t ht⟩
        · right
          obtain ⟨du, ou, tu, su, au, gu⟩ := u
          obtain ⟨dv, ov, tv, sv, av, gv⟩ := v
          unfold exPair at h
          split at h
          · rename_i s i t j a b e1 e2 e3 e4
            dsimp only at e1 e2 e3 e4
            subst e1 e2 e3 e4
            simp only [Bool.and_eq_true, beq_iff_eq, bne_iff_ne, ne_eq, Option.isNone_iff_eq_none] at h
            obtain ⟨rfl, hij, hab, has, hbs, rfl, rfl⟩ := h
            unfold exPair
            simp only [Bool.and_eq_true, beq_iff_eq, bne_iff_ne, ne_eq, Option.isNone_iff_eq_none]
            simp only [Ne.symm hij, Ne.symm hab, hbs, has, not_false_eq_true, and_self, beq_self_eq_true, Option.isNone_none, Bool.and_self, Bool.true_and, decide_true, Bool.not_false, decide_false]
          · cases h
      intro ox oy hox hoy
      have c1 := (u1r hcm hox).1
      have c2 := (u1r hcm hoy).1
      have hpure : (pureO ox = true ∨ pureO oy = true) ∨ (keepO ops ox = true ∧ keepO ops oy = true) := by
        cases p : isHeap ops x with
        | false => exact .inl (.inl (pr hox p))
        | true =>
          cases q : isHeap ops y with
          | false => exact .inl (.inr (pr hoy q))
          | true =>
            obtain ⟨k1, k2⟩ := both ⟨p, q⟩
            unfold keepI at k1 k2
            rw [hox] at k1
            rw [hoy] at k2
            exact .inr ⟨k1, k2⟩
      refine ⟨c1, c2, ?_, hpure⟩
      rcases Nat.lt_or_gt_of_ne hxy with hlt | hlt
      · rcases g4 y (List.mem_range.mpr hy) x (List.mem_range.mpr hlt) with h | h
        · rw [b2] at h; cases h
        · rw [hox, hoy] at h; exact h
      · rcases g4 x (List.mem_range.mpr hx) y (List.mem_range.mpr hlt) with h | h
        · rw [b1] at h; cases h
        · rw [hox, hoy] at h; exact sym h
def RP (c : Ctx) (ops : Array Oper) (e' : Env) (H' : Heap) (o1 : Out PV) (l : List Nat) (e : Env) (H : Heap) : Prop :=
  (∃ A, l = A ++ [ops.size - 1] ∧ (∀ k ∈ A, k < ops.size - 1) ∧ RL c ops e' H' A e H) ∨ (l = [] ∧ ∃ v o, ops[ops.size - 1]? = some o ∧ o1 = .ok v H ∧ e = put c.rc ops e' o v)
theorem RP.front (hl : lastB ops = true) {e' : Env} {H' : Heap} {o1 : Out PV} {ol : Oper} (hol : ops[ops.size - 1]? = some ol) (hok : okDst c.rc.isSome c.prot e' ol.dst = true) (hg : gval c.P c.C c.rc ops e' ol H' = some o1)
    (A : List Nat) (i : Nat) (B : List Nat) (oi : Oper) (e : Env) (H : Heap) (hi : ops[i]? = some oi) (hnb : ∀ k ∈ A ++ B, ((befs ops.toList []).getD i 0).testBit k = false)
    (hR : RP c ops e' H' o1 (A ++ i :: B) e H) : okDst c.rc.isSome c.prot e oi.dst = true ∧ ∃ o2, gval c.P c.C c.rc ops e oi H = some o2 ∧ (∀ v H1, o2 = .ok v H1 → RP c ops e' H' o1 (A ++ B) (put c.rc ops e oi v) H1) ∧ ∀ v H1, o2 = .pan v H1 → o1 = .pan v H1 := by
  rcases hR with ⟨A', hA, hlt, hR⟩ | ⟨h, _⟩
  · rcases List.eq_nil_or_concat B with rfl | ⟨B', x, rfl⟩
    · obtain ⟨rfl, h2⟩ := List.append_inj' hA rfl
      simp only [List.cons.injEq, and_true] at h2
      subst h2
      have hnil : A = [] := by
        cases A with
        | nil => rfl
        | cons k r =>
          exfalso
          have h1 := hnb k (by simp)
          unfold lastB at hl
          rw [hol] at hl
          simp only [Bool.and_eq_true, List.all_eq_true] at hl
          have h2 := hl.2 k (List.mem_range.mpr (hlt k (by simp)))
          rw [h1] at h2
          cases h2
      subst hnil
      obtain ⟨rfl, rfl⟩ := hR.nil
      rw [hol] at hi
      cases hi
      exact ⟨hok, o1, hg, fun v H1 he => .inr ⟨rfl, v, ol, hol, he, rfl⟩, fun v H1 he => he⟩
    · have h1 : A ++ i :: (B' ++ [x]) = (A ++ i :: B') ++ [x] := by simp
      rw [List.concat_eq_append, h1] at hA
      obtain ⟨h2, h3⟩ := List.append_inj' hA rfl
      simp only [List.cons.injEq, and_true] at h3
      subst h2 h3
      obtain ⟨k1, v, H1, k2, k3⟩ := RL.front A i B' oi e H hi (fun k hk => hnb k (by
        rw [List.concat_eq_append]
        rcases List.mem_append.mp hk with h | h
        · exact List.mem_append_left _ h
        · exact List.mem_append_right _ (List.mem_append_left _ h))) hR
      refine ⟨k1, _, k2, fun v' H' he => ?_, fun v' H' he => by cases he⟩
      cases he
      refine .inl ⟨A ++ B', by rw [List.concat_eq_append]; simp, fun k hk => hlt k ?_, k3⟩
      rcases List.mem_append.mp hk with h | h
      · exact List.mem_append_left _ h
      · exact List.mem_append_right _ (List.mem_cons_of_mem _ h)
  · simp at h
end Go.Proofs.YtiiepllnnjjmaaaDoor.Pi
namespace Go.Proofs.YtiiepllnnjjmaaaDoor.Pi
variable {c : Ctx} {ops : Array Oper} {H : Heap}
theorem u3r {e : Env} {o : Oper} {v : PV} (h : isAl o = false) : touchV e o v = touch e o := by unfold touchV; rw [h]; rfl
theorem u92 {e : Env} {o : Oper} {v : PV} {n : Nat} (h : touchV e o v = .al n) : isAl o = true := by
  cases ha : isAl o with
  | true => rfl
  | false => rw [u3r ha] at h; exact absurd h uc8
theorem ung {e : Env} {o : Oper} {H H' : Heap} {v : PV} (ha : isAl o = true) (h : gval c.P c.C c.rc ops e o H = some (.ok v H')) :
    ∃ b, v = .ptr H.length 0 ∧ H' = H ++ [b] ∧ ∀ K, gval c.P c.C c.rc ops e o K = some (.ok (.ptr K.length 0) (K ++ [b])) := by
  obtain ⟨dst, op, ty, pos, after, guard⟩ := o
  cases op with
  | alloc t =>
    have hg : guard.isNone = true := ha
    cases guard with
    | some q => simp at hg
    | none =>
      have e0 : gval c.P c.C c.rc ops e ⟨dst, .alloc t, ty, pos, after, none⟩ = al (tzero c.P t).cells := rfl
      rw [e0] at h ⊢
      unfold al at h ⊢
      cases hc : (tzero c.P t).cells.all isCell with
      | false => rw [hc] at h; cases h
      | true =>
        rw [hc] at h
        simp only [cond_true, Option.some.injEq, Out.ok.injEq] at h
        obtain ⟨rfl, rfl⟩ := h
        exact ⟨_, rfl, rfl, fun K => rfl⟩
  | _ => cases ha
theorem umy {e : Env} {o : Oper} {H H' : Heap} {v : PV} {i : Nat} (h : gval c.P c.C c.rc ops e o H = some (.ok v H')) (ht : touch e o = .ld i ∨ touch e o = .st i) (hq : quietO o = true) : i < H.length := by
  obtain ⟨dst, op, ty, pos, after, guard⟩ := o
  unfold quietO at hq
  cases op with
  | load t a =>
    cases guard with
    | some q => simp at hq
    | none =>
      have hg : guardM (known c.P t) (ld (tagg c.P t) (moves ops ⟨dst, .load t a, ty, pos, after, none⟩) (ev e a)) H = some (.ok v H') := h
      obtain ⟨_, hg⟩ := u03 hg
      have ht : tld (ev e a) = .ld i ∨ tld (ev e a) = .st i := ht
      cases hv : ev e a with
      | ptr id off =>
        rw [hv] at ht hg
        have : id = i := by rcases ht with h | h <;> simp [tld] at h; exact h
        subst this
        cases hb : H[id]? with
        | none =>
          exfalso
          unfold ld at hg
          simp only [hb] at hg
          cases hg
        | some b => exact (List.getElem?_eq_some_iff.mp hb).1
      | _ => rw [hv] at ht; rcases ht with h | h <;> simp [tld] at h
  | store t a x =>
    cases guard with
    | some q => simp at hq
    | none =>
      have hg : guardM (known c.P t) (st (tsize c.P t) (tmpO x) (ev e a) (ev e x)) H = some (.ok v H') := h
      obtain ⟨_, hg⟩ := u03 hg
      have ht : tst (ev e a) = .ld i ∨ tst (ev e a) = .st i := ht
      cases hv : ev e a with
      | ptr id off =>
        rw [hv] at ht hg
        have : id = i := by rcases ht with h | h <;> simp [tst] at h; exact h
        subst this
        cases hb : H[id]? with
        | none =>
          exfalso
          unfold st at hg
          simp only [hb] at hg
          cases hg
        | some b => exact (List.getElem?_eq_some_iff.mp hb).1
      | _ => rw [hv] at ht; rcases ht with h | h <;> simp [tst] at h
  | _ =>
    exfalso
    revert ht
    unfold touch
    dsimp only
    cases pureO _ <;> simp
def EffA (n : Nat) (τ : Touch) (f : Heap → Heap) : Prop := f = (fun K => K) ∨ (∃ i b, τ = .st i ∧ f = fun K => K.set i b) ∨ ∃ b, τ = .al n ∧ f = fun K => K ++ [b]
theorem uk3 {o : Oper} {e : Env} {H H' : Heap} {v : PV} (hq : quietO o = true) (hg : gval c.P c.C c.rc ops e o H = some (.ok v H')) (hs : u14 o = false → isAl o = false → H' = H) :
    ∃ f, EffA H.length (touchV e o v) f ∧ H' = f H ∧ (∀ K, agreeT (touchV e o v) H K → gval c.P c.C c.rc ops e o K = some (.ok v (f K))) ∧ ∀ i, (touchV e o v = .ld i ∨ touchV e o v = .st i) → i < H.length := by
  cases ha : isAl o with
  | false =>
    rw [u3r ha]
    obtain ⟨f, h1, h2, h3⟩ := eff_of hq hg (fun h => hs h ha)
    refine ⟨f, ?_, h2, h3, fun i hi => umy hg hi hq⟩
    rcases h1 with h | ⟨i, b, h, k⟩
    · exact .inl h
    · exact .inr (.inl ⟨i, b, h, k⟩)
  | true =>
    obtain ⟨b, rfl, rfl, h3⟩ := ung ha hg
    have ht : touchV e o (.ptr H.length 0) = .al H.length := by unfold touchV; rw [ha]; rfl
    rw [ht]
    refine ⟨fun K => K ++ [b], .inr (.inr ⟨b, rfl, rfl⟩), rfl, fun K hK => ?_, fun i hi => by rcases hi with h | h <;> cases h⟩
    have hK : K.length = H.length := hK
    rw [← hK]
    exact h3 K
def StepA (c : Ctx) (ops : Array Oper) (H : Heap) (o : Oper) (e e' : Env) (H' : Heap) (τ : Touch) : Prop :=
  okDst c.rc.isSome c.prot e o.dst = true ∧ quietO o = true ∧ ∃ v, gval c.P c.C c.rc ops e o H = some (.ok v H') ∧ e' = put c.rc ops e o v ∧ τ = touchV e o v ∧ (u14 o = false → isAl o = false → H' = H)
theorem unt {x y : Oper} (h : exPair x y = true) : isAl x = false ∧ isAl y = false := by
  obtain ⟨d1, o1, t1, p1, a1, g1⟩ := x
  obtain ⟨d2, o2, t2, p2, a2, g2⟩ := y
  unfold exPair at h
  split at h
  · rename_i e1 e2 e3 e4
    dsimp only at e1 e2
    subst e1 e2
    exact ⟨rfl, rfl⟩
  · cases h
theorem swapA {x y : Oper} {e e1 e2 : Env} {H1 H2 : Heap} {τx τy : Touch} (hx : u08 x = false) (hy : u08 y = false) (ha : apartE ops x y = true) (hcl : clash τy τx = false)
    (h1 : StepA c ops H x e e1 H1 τx) (h2 : StepA c ops H1 y e1 e2 H2 τy) :
    ∃ e1' H1', StepA c ops H y e e1' H1' τy ∧ StepA c ops H1' x e1' e2 H2 τx := by
  obtain ⟨k1, q1, v, g1, rfl, rfl, s1⟩ := h1
  obtain ⟨k2, q2, u, g2, rfl, rfl, s2⟩ := h2
  unfold apartE at ha
  rw [Bool.or_eq_true] at ha
  rcases ha with ha | ha
  · obtain ⟨a1, a2, a3⟩ := u43 ha
    obtain ⟨fx, ex1, ex2, ex3, ex4⟩ := uk3 q1 g1 s1
    obtain ⟨fy, ey1, ey2, ey3, ey4⟩ := uk3 q2 g2 s2
    rw [u1b hx] at k2 g2 hcl ey1 ey3 ey4 ⊢
    rw [u1b hy]
    have agY : u3i (y.looksAt ops) (setAll e (u1m ops x e v)) e := fun t ht => u19 e _ fun p hp he => a1 p.1 (u0l p hp) (he ▸ ht)
    have agX : u3i (x.looksAt ops) (setAll e (u1m ops y e u)) e := fun t ht => u19 e _ fun p hp he => a3 p.1 (u0l p hp) (he ▸ ht)
    have tY : touchV (setAll e (u1m ops x e v)) y u = touchV e y u := by unfold touchV; rw [u4w agY]
    have tX : touchV (setAll e (u1m ops y e u)) x v = touchV e x v := by unfold touchV; rw [u4w agX]
    rw [tY] at hcl ey1 ey3 ey4 ⊢
    have gY := u35 (P := c.P) (C := c.C) (rc := c.rc) hy agY
    have gX := u35 (P := c.P) (C := c.C) (rc := c.rc) hx agX
    have agr : ∀ {τ : Touch} {K : Heap}, agreeT τ K K := by
      intro τ K
      cases τ <;> first | exact True.intro | rfl
    -- y ahead of x
    have hy0 : agreeT (touchV e y u) (fx H) H := by
      rcases ex1 with rfl | ⟨i, b, h1, rfl⟩ | ⟨b, h1, rfl⟩
      · exact agr
      · rw [h1] at hcl
        cases hty : touchV e y u with
        | no => exact True.intro
        | ld j =>
          rw [hty] at hcl
          have hcl : (i == j) = false := hcl
          show H[j]? = (H.set i b)[j]?
          rw [List.getElem?_set_ne (by simpa using hcl)]
        | st j =>
          rw [hty] at hcl
          have hcl : (i == j) = false := hcl
          show H[j]? = (H.set i b)[j]?
          rw [List.getElem?_set_ne (by simpa using hcl)]
        | any => rw [hty] at hcl; cases hcl
        | al n => show H.length = (H.set i b).length; rw [List.length_set]
      · rw [h1] at hcl
        cases hty : touchV e y u with
        | no => exact True.intro
        | ld j =>
          rw [hty] at hcl
          have hcl : decide (H.length ≤ j) = false := hcl
          have hj : j < H.length := by have := of_decide_eq_false hcl; omega
          show H[j]? = (H ++ [b])[j]?
          rw [List.getElem?_append_left hj]
        | st j =>
          rw [hty] at hcl
          have hcl : decide (H.length ≤ j) = false := hcl
          have hj : j < H.length := by have := of_decide_eq_false hcl; omega
          show H[j]? = (H ++ [b])[j]?
          rw [List.getElem?_append_left hj]
        | any => rw [hty] at hcl; cases hcl
        | al n => rw [hty] at hcl; cases hcl
    have yH : gval c.P c.C c.rc ops e y H = some (.ok u (fy H)) := by
      rw [← gY]
      refine ey3 H ?_
      rw [ex2]
      exact hy0
    have hx0 : agreeT (touchV e x v) H (fy H) := by
      rcases ey1 with rfl | ⟨j, b, h1, rfl⟩ | ⟨b, h1, rfl⟩
      · exact agr
      · rw [h1] at hcl
        cases htx : touchV e x v with
        | no => exact True.intro
        | ld i =>
          rw [htx] at hcl
          have hcl : (i == j) = false := hcl
          have hne : i ≠ j := by simpa using hcl
          show (H.set j b)[i]? = H[i]?
          rw [List.getElem?_set_ne (fun h => hne h.symm)]
        | st i =>
          rw [htx] at hcl
          have hcl : (i == j) = false := hcl
          have hne : i ≠ j := by simpa using hcl
          show (H.set j b)[i]? = H[i]?
          rw [List.getElem?_set_ne (fun h => hne h.symm)]
        | any => rw [htx] at hcl; cases hcl
        | al n => show (H.set j b).length = H.length; rw [List.length_set]
      · rw [h1] at hcl
        cases htx : touchV e x v with
        | no => exact True.intro
        | ld i =>
          have := ex4 i (.inl htx)
          show (H ++ [b])[i]? = H[i]?
          rw [List.getElem?_append_left this]
        | st i =>
          have := ex4 i (.inr htx)
          show (H ++ [b])[i]? = H[i]?
          rw [List.getElem?_append_left this]
        | any => rw [htx] at hcl; cases hcl
        | al n => rw [htx] at hcl; cases hcl
    have xH : gval c.P c.C c.rc ops (setAll e (u1m ops y e u)) x (fy H) = some (.ok v (fx (fy H))) := by
      rw [gX]
      exact ex3 _ hx0
    have hcomm : fx (fy H) = H2 := by
      rw [ey2, ex2]
      rcases ex1 with rfl | ⟨i, b, h1, rfl⟩ | ⟨b, h1, rfl⟩
      · rfl
      · have hi := ex4 i (.inr h1)
        rcases ey1 with rfl | ⟨j, b', h2, rfl⟩ | ⟨b', h2, rfl⟩
        · rfl
        · rw [h1, h2] at hcl
          have hcl : (i == j) = false := hcl
          have hne : i ≠ j := by simpa using hcl
          exact List.set_comm _ _ (fun h => hne h.symm)
        · show (H ++ [b']).set i b = H.set i b ++ [b']
          rw [List.set_append_left _ _ hi]
      · rcases ey1 with rfl | ⟨j, b', h2, rfl⟩ | ⟨b', h2, rfl⟩
        · rfl
        · rw [h1, h2] at hcl
          have hcl : decide (H.length ≤ j) = false := hcl
          have hj : j < H.length := by have := of_decide_eq_false hcl; omega
          show H.set j b' ++ [b] = (H ++ [b]).set j b'
          rw [List.set_append_left _ _ hj]
        · rw [h1, h2] at hcl
          cases hcl
    refine ⟨setAll e (u1m ops y e u), fy H, ⟨?_, q2, u, yH, (u1b hy).symm, rfl, fun hs ha' => ?_⟩, ⟨?_, q1, v, ?_, ?_, tX.symm, fun hs ha' => ?_⟩⟩
    · rw [← k2]
      refine u1x (by rw [u1w]) fun t ht => (u19 e _ fun p hp he => ?_).symm
      refine a2 p.1 (u0l p hp) ?_
      rw [he]
      exact List.mem_append_left _ (by rw [ht]; simp)
    · rcases ey1 with rfl | ⟨j, b, h1, rfl⟩ | ⟨b, h1, rfl⟩
      · rfl
      · exfalso
        rw [u3r ha'] at h1
        obtain ⟨dst, op, ty, pos, after, guard⟩ := y
        cases op with
        | store t a x => cases hs
        | load t a =>
          have h1 : tld (ev e a) = .st j := h1
          cases hv : ev e a <;> rw [hv] at h1 <;> cases h1
        | _ =>
          revert h1
          unfold touch
          dsimp only
          cases pureO _ <;> intro h1 <;> cases h1
      · rw [u92 h1] at ha'; cases ha'
    · rw [← k1]
      refine u1x (by rw [u1w]) fun t ht => u19 e _ fun p hp he => ?_
      refine a2 t (List.mem_append_left _ (by rw [ht]; simp)) ?_
      rw [← he]
      exact u0l p hp
    · rw [xH, hcomm]
    · rw [u1b hx, u28 agX, u28 agY]
      exact u51 e _ _ fun p hp q hq he => a2 p.1 (u0l p hp) (he ▸ u0l q hq)
    · rw [← hcomm]
      rcases ex1 with rfl | ⟨i, b, h1, rfl⟩ | ⟨b, h1, rfl⟩
      · rfl
      · exfalso
        rw [u3r ha'] at h1
        obtain ⟨dst, op, ty, pos, after, guard⟩ := x
        cases op with
        | store t a x => cases hs
        | load t a =>
          have h1 : tld (ev e a) = .st i := h1
          cases hv : ev e a <;> rw [hv] at h1 <;> cases h1
        | _ =>
          revert h1
          unfold touch
          dsimp only
          cases pureO _ <;> intro h1 <;> cases h1
      · rw [u92 h1] at ha'; cases ha'
  · obtain ⟨b1, b2⟩ := unt ha
    obtain ⟨r1, r2, r3, r4, r5, r6, r7, r8, r9⟩ := exSwap ha g1 g2 k1 k2
    subst r1 r2
    refine ⟨_, _, ⟨r3, q2, u, r5 _, rfl, ?_, fun _ _ => rfl⟩, ⟨r4, q1, v, r6 _, r7.symm, ?_, fun _ _ => rfl⟩⟩
    · rw [u3r b2, u3r b2, r9, r9]
    · rw [u3r b1, u3r b1, r8, r8]
def RunA (c : Ctx) (ops : Array Oper) : List (Nat × Touch) → Env → Heap → Env → Heap → Prop
  | [], e, H, e', H' => e = e' ∧ H = H'
  | (i, τ) :: r, e, H, e', H' => ∃ o e1 H1, ops[i]? = some o ∧ StepA c ops H o e e1 H1 τ ∧ RunA c ops r e1 H1 e' H'
theorem frontA {i : Nat} {τ : Touch} {oi : Oper} (hi : ops[i]? = some oi) (hri : u08 oi = false) (hr : ∀ (j : Nat) (o : Oper), ops[j]? = some o → u08 o = false) : ∀ (A B : List (Nat × Touch)) (e e' : Env) (H H' : Heap),
    (∀ a ∈ A, (∀ oa, ops[a.1]? = some oa → apartE ops oa oi = true) ∧ clash τ a.2 = false) → RunA c ops (A ++ (i, τ) :: B) e H e' H' → RunA c ops ((i, τ) :: (A ++ B)) e H e' H'
  | [], B, e, e', H, H', ha, h => h
  | (a, σ) :: A, B, e, e', H, H', ha, h => by
    obtain ⟨oa, e1, H1, hoa, hs, hrun⟩ := h
    obtain ⟨o, e2, H2, ho, hs2, hrun2⟩ := frontA hi hri hr A B e1 e' H1 H' (fun b hb => ha b (List.mem_cons_of_mem _ hb)) hrun
    rw [hi] at ho
    cases ho
    obtain ⟨b1, b2⟩ := ha (a, σ) List.mem_cons_self
    obtain ⟨e1', H1', s1, s2⟩ := swapA (hr a oa hoa) hri (b1 oa hoa) b2 hs hs2
    exact ⟨oi, e1', H1', hi, s1, oa, e2, H2, hoa, s2, hrun2⟩
def PairA (ops : Array Oper) (x y : Nat × Touch) : Prop := ((befs ops.toList []).getD y.1 0).testBit x.1 = true ∨ (clash y.2 x.2 = false ∨ (isAlT y.2 = true ∧ isAlT x.2 = true))
theorem uby {β : Type} {k : Env → M β} {out : Out β} : ∀ (l : List Nat) (ts : List (Nat × Touch)) (env : Env) (H : Heap), dOpsA c ops l ts env k H = some out →
    ∃ e' H' L, L.map Prod.fst = l ∧ (∀ q ∈ L, ∀ t ∈ ts, PairA ops t q) ∧ L.Pairwise (PairA ops) ∧ RunA c ops L env H e' H' ∧ k e' H' = some out
  | [], ts, env, H, h => ⟨env, H, [], rfl, (fun q hq => by cases hq), List.Pairwise.nil, ⟨rfl, rfl⟩, h⟩
  | i :: r, ts, env, H, h => by
    unfold dOpsA at h
    cases ho : ops[i]? with
    | none => rw [ho] at h; exact (u00 (H := H) h).elim
    | some o =>
      rw [ho] at h
      dsimp only at h
      obtain ⟨hok, h⟩ := u5o h
      rw [Bool.and_eq_true] at hok
      obtain ⟨hok, hq⟩ := hok
      have key : ∃ v H1, gval c.P c.C c.rc ops env o H = some (.ok v H1) ∧ (u14 o = false → isAl o = false → H1 = H) ∧ guardM (u8l (befs ops.toList []) i (touchV env o v) ts) (dOpsA c ops r ((i, touchV env o v) :: ts) (put c.rc ops env o v) k) H1 = some out := by
        cases hst : (u14 o || isAl o) with
        | true =>
          rw [hst] at h
          have h : M.bind (noPan (gval c.P c.C c.rc ops env o)) _ H = some out := h
          unfold M.bind noPan at h
          cases hm : gval c.P c.C c.rc ops env o H with
          | none => rw [hm] at h; cases h
          | some q =>
            rw [hm] at h
            cases q with
            | ok v H' => exact ⟨v, H', rfl, (fun h1 h2 => by rw [h1, h2] at hst; cases hst), h⟩
            | pan v H' => cases h
        | false =>
          rw [hst] at h
          obtain ⟨v, h1, h2⟩ := nb_some.mp h
          exact ⟨v, H, h1, fun _ _ => rfl, h2⟩
      obtain ⟨v, H1, hg, hs, h2⟩ := key
      obtain ⟨hcl, h2⟩ := u5o h2
      unfold u8l at hcl
      simp only [List.all_eq_true, Bool.or_eq_true, Bool.not_eq_true', Bool.and_eq_true] at hcl
      obtain ⟨e', H', L, l1, l2, l3, l4, l5⟩ := uby r ((i, touchV env o v) :: ts) _ H1 h2
      refine ⟨e', H', (i, touchV env o v) :: L, by rw [List.map_cons, l1], fun q hq t ht => ?_, List.pairwise_cons.mpr ⟨fun q hq => l2 q hq _ List.mem_cons_self, l3⟩, ⟨o, _, H1, ho, ⟨hok, hq, v, hg, rfl, rfl, hs⟩, l4⟩, l5⟩
      rcases List.mem_cons.mp hq with rfl | hq
      · exact hcl t ht
      · exact l2 q hq t (List.mem_cons_of_mem _ ht)
theorem uk7 : ∀ (L : List (Nat × Touch)) (e e' : Env) (H H' : Heap), RunA c ops L e H e' H' → ∀ q ∈ L, isAlT q.2 = true → ∃ o, ops[q.1]? = some o ∧ isAl o = true
  | (i, τ) :: r, e, e', H, H', h, q, hq, hal => by
    obtain ⟨o, e1, H1, ho, ⟨_, _, v, _, _, rfl, _⟩, hr⟩ := h
    rcases List.mem_cons.mp hq with rfl | hq
    · refine ⟨o, ho, ?_⟩
      dsimp only at hal
      cases ht : touchV e o v with
      | al n => exact u92 ht
      | _ => rw [ht] at hal; cases hal
    · exact uk7 r e1 e' H1 H' hr q hq hal
theorem ugj : ∀ {L L' : List (Nat × Touch)} {e e1 e2 : Env} {H H1 H2 : Heap}, RunA c ops L e H e1 H1 → RunA c ops L' e H e2 H2 → L.map Prod.fst = L'.map Prod.fst → e1 = e2 ∧ H1 = H2
  | [], [], e, e1, e2, H, H1, H2, h, k, _ => by
    obtain ⟨rfl, rfl⟩ := h
    obtain ⟨rfl, rfl⟩ := k
    exact ⟨rfl, rfl⟩
  | [], q :: r, _, _, _, _, _, _, _, _, h => by cases h
  | q :: r, [], _, _, _, _, _, _, _, _, h => by cases h
  | (i, τ) :: r, (j, σ) :: s, e, e1, e2, H, H1, H2, h, k, hm => by
    simp only [List.map_cons, List.cons.injEq] at hm
    obtain ⟨rfl, hm⟩ := hm
    obtain ⟨o, f1, K1, ho, ⟨_, _, v, hg, rfl, _, _⟩, hr⟩ := h
    obtain ⟨o', f2, K2, ho', ⟨_, _, v', hg', rfl, _, _⟩, hr'⟩ := k
    rw [ho] at ho'
    cases ho'
    rw [hg] at hg'
    cases hg'
    exact ugj hr hr' hm
theorem uf8 {env : Env} {k : Env → M PV} {o : Out PV} (h : dOpsAA c ops env k H = some o) : ∃ a1 a2, alsOf ops = [a1, a2] ∧ chkA (dOpsA c ops (mvL a1 a2 (List.range ops.size)) [] env M.pure) (dOpsA c ops (List.range ops.size) [] env M.pure) (dOpsA c ops (List.range ops.size) [] env k) H = some o := by
  unfold dOpsAA at h
  generalize alsOf ops = l at h
  match l, h with
  | [a1, a2], h => exact ⟨a1, a2, rfl, h⟩
  | [], h => exact (u00 (H := H) h).elim
  | [_], h => exact (u00 (H := H) h).elim
  | _ :: _ :: _ :: _, h => exact (u00 (H := H) h).elim
theorem uil (h : modeA ops = true) {a1 a2 : Nat} (hals : alsOf ops = [a1, a2]) : consA (befs ops.toList []) (mvL a1 a2 (List.range ops.size)) = true := by
  unfold modeA at h
  rw [hals] at h
  simp only [Bool.and_eq_true] at h
  exact h.2.2.2
def RA (c : Ctx) (ops : Array Oper) (e' : Env) (H' : Heap) (l : List Nat) (e : Env) (H : Heap) : Prop :=
  ∃ L : List (Nat × Touch), L.map Prod.fst = l ∧ L.Pairwise (PairA ops) ∧ RunA c ops L e H e' H'
theorem RA.nil {e' e : Env} {H' H : Heap} (h : RA c ops e' H' [] e H) : e = e' ∧ H = H' := by
  obtain ⟨L, h1, h2, h3⟩ := h
  cases L with
  | nil => exact h3
  | cons q r => cases h1
theorem RA.front (hr : ∀ (j : Nat) (o : Oper), ops[j]? = some o → u08 o = false) {e' : Env} {H' : Heap} (A : List Nat) (i : Nat) (B : List Nat) (oi : Oper) (e : Env) (H : Heap) (hi : ops[i]? = some oi) (ha : ∀ a ∈ A, ∀ oa, ops[a]? = some oa → apartE ops oa oi = true)
    (hnb : ∀ k ∈ A, ((befs ops.toList []).getD i 0).testBit k = false) (hal : isAl oi = true → ∀ a ∈ A, ∀ oa, ops[a]? = some oa → isAl oa = false) (hR : RA c ops e' H' (A ++ i :: B) e H) :
    okDst c.rc.isSome c.prot e oi.dst = true ∧ ∃ v H1, gval c.P c.C c.rc ops e oi H = some (.ok v H1) ∧ RA c ops e' H' (A ++ B) (put c.rc ops e oi v) H1 := by
  obtain ⟨L, h1, h2, h3⟩ := hR
  obtain ⟨LA, LB, rfl, hA, hB⟩ := List.map_eq_append_iff.mp h1
  cases LB with
  | nil => cases hB
  | cons q LB =>
    obtain ⟨j, τ⟩ := q
    simp only [List.map_cons, List.cons.injEq] at hB
    obtain ⟨rfl, hB⟩ := hB
    have hp := List.pairwise_append.mp h2
    have hq := uk7 _ _ _ _ _ h3
    obtain ⟨o, e1, H1, ho, ⟨hok, _, v, hg, rfl, _, hs⟩, hrun⟩ := frontA hi (hr j oi hi) hr LA LB e e' H H' (fun a ham => ⟨fun oa hoa => ha a.1 (by rw [← hA]; exact List.mem_map_of_mem ham) oa hoa, by
      have haA : a.1 ∈ A := by rw [← hA]; exact List.mem_map_of_mem ham
      rcases hp.2.2 a ham _ List.mem_cons_self with g | g | ⟨g1, g2⟩
      · rw [hnb a.1 haA] at g; cases g
      · exact g
      · exfalso
        obtain ⟨o1, k1, k2⟩ := hq (j, τ) (List.mem_append_right _ List.mem_cons_self) g1
        obtain ⟨o2, k3, k4⟩ := hq a (List.mem_append_left _ ham) g2
        rw [hi] at k1
        cases k1
        rw [hal k2 a.1 haA o2 k3] at k4
        cases k4⟩) h3
    rw [hi] at ho
    cases ho
    refine ⟨hok, v, H1, hg, LA ++ LB, by rw [List.map_append, hA, hB], ?_, hrun⟩
    exact List.pairwise_append.mpr ⟨hp.1, (List.pairwise_cons.mp hp.2.1).2, fun a ha b hb => hp.2.2 a ha b (List.mem_cons_of_mem _ hb)⟩
theorem ufp {u v : Oper} (h : apartE ops u v = true) : apartE ops v u = true := by
  unfold apartE at h ⊢
  rw [Bool.or_eq_true] at h ⊢
  rcases h with h | h
  · left
    obtain ⟨q1, q2, q3⟩ := u43 h
    unfold apartN
    simp only [Bool.and_eq_true, List.all_eq_true, Bool.not_eq_true', List.contains_eq_mem, decide_eq_false_iff_not]
    exact ⟨fun t ht => ⟨q3 t ht, fun h => q2 t h ht⟩, fun t ht => q1 t ht⟩
  · right
    obtain ⟨du, ou, tu, su, au, gu⟩ := u
    obtain ⟨dv, ov, tv, sv, av, gv⟩ := v
    unfold exPair at h
    split at h
    · rename_i s i t j a b e1 e2 e3 e4
      dsimp only at e1 e2 e3 e4
      subst e1 e2 e3 e4
      simp only [Bool.and_eq_true, beq_iff_eq, bne_iff_ne, ne_eq, Option.isNone_iff_eq_none] at h
      obtain ⟨rfl, hij, hab, has, hbs, rfl, rfl⟩ := h
      unfold exPair
      simp only [Bool.and_eq_true, beq_iff_eq, bne_iff_ne, ne_eq, Option.isNone_iff_eq_none]
      simp only [Ne.symm hij, Ne.symm hab, hbs, has, not_false_eq_true, and_self, beq_self_eq_true, Option.isNone_none, Bool.and_self, Bool.true_and, decide_true, Bool.not_false, decide_false]
    · cases h
theorem uba {b : List Nat} : ∀ {l : List Nat}, consA b l = true → ∀ {X Y : List Nat} {x y : Nat}, l = X ++ x :: Y → y ∈ Y → (b.getD x 0).testBit y = false
  | [], h, X, Y, x, y, he, hy => by simp at he
  | i :: r, h, [], Y, x, y, he, hy => by
    simp only [List.nil_append, List.cons.injEq] at he
    obtain ⟨rfl, rfl⟩ := he
    unfold consA at h
    simp only [Bool.and_eq_true, List.all_eq_true, Bool.not_eq_true'] at h
    exact h.1 y hy
  | i :: r, h, z :: X, Y, x, y, he, hy => by
    simp only [List.cons_append, List.cons.injEq] at he
    obtain ⟨rfl, rfl⟩ := he
    unfold consA at h
    simp only [Bool.and_eq_true] at h
    exact uba h.2 rfl hy
theorem u4k (a1 a2 : Nat) (l m : List Nat) : mvL a1 a2 (l ++ m) = mvL a1 a2 l ++ mvL a1 a2 m := by unfold mvL; rw [List.flatMap_append]
theorem u60 (a1 a2 i : Nat) (l : List Nat) : mvL a1 a2 (i :: l) = (bif i == a1 then [a2, a1] else bif i == a2 then [] else [i]) ++ mvL a1 a2 l := rfl
theorem mvL_id {a1 a2 : Nat} : ∀ {l : List Nat}, a1 ∉ l → a2 ∉ l → mvL a1 a2 l = l
  | [], _, _ => rfl
  | i :: l, h1, h2 => by
    rw [u60, mvL_id (fun h => h1 (List.mem_cons_of_mem _ h)) (fun h => h2 (List.mem_cons_of_mem _ h))]
    have e1 : (i == a1) = false := beq_false_of_ne fun h => h1 (by rw [h]; exact List.mem_cons_self)
    have e2 : (i == a2) = false := beq_false_of_ne fun h => h2 (by rw [h]; exact List.mem_cons_self)
    rw [e1, e2]
    rfl
theorem ulj {a1 a2 x : Nat} : ∀ {l : List Nat}, x ∈ mvL a1 a2 l → x ∈ l ∨ (x = a2 ∧ a1 ∈ l)
  | i :: l, h => by
    rw [u60] at h
    rcases List.mem_append.mp h with h | h
    · cases e1 : (i == a1) with
      | true =>
        rw [e1] at h
        have hi : i = a1 := beq_iff_eq.mp e1
        simp only [cond_true, List.mem_cons, List.not_mem_nil, or_false] at h
        rcases h with rfl | rfl
        · exact .inr ⟨rfl, by rw [hi]; exact List.mem_cons_self⟩
        · exact .inl (by rw [hi]; exact List.mem_cons_self)
      | false =>
        rw [e1] at h
        cases e2 : (i == a2) with
        | true => rw [e2] at h; cases h
        | false =>
          rw [e2] at h
          simp only [cond_false, List.mem_cons, List.not_mem_nil, or_false] at h
          exact .inl (by rw [h]; exact List.mem_cons_self)
    · rcases ulj h with h | ⟨h1, h2⟩
      · exact .inl (List.mem_cons_of_mem _ h)
      · exact .inr ⟨h1, List.mem_cons_of_mem _ h2⟩
def RB (c : Ctx) (ops : Array Oper) (a1 a2 : Nat) (e1 : Env) (H1 : Heap) (e2 : Env) (H2 : Heap) (l : List Nat) (e : Env) (H : Heap) : Prop :=
  l.Pairwise (· < ·) ∧ (∀ i ∈ l, i < ops.size) ∧ ((a1 ∈ l ∧ a2 ∈ l ∧ RA c ops e1 H1 l e H ∧ RA c ops e2 H2 (mvL a1 a2 l) e H) ∨ (¬ (a1 ∈ l ∧ a2 ∈ l) ∧ (RA c ops e1 H1 l e H ∨ RA c ops e2 H2 l e H)))
theorem RB.front (hcm : commB ops = true) {a1 a2 : Nat} (h12 : a1 < a2) (hal : ∀ i o, ops[i]? = some o → isAl o = true → i = a1 ∨ i = a2) (hcons : consA (befs ops.toList []) (mvL a1 a2 (List.range ops.size)) = true)
    {e1 : Env} {H1 : Heap} {e2 : Env} {H2 : Heap} (A : List Nat) (i : Nat) (B : List Nat) (oi : Oper) (e : Env) (H : Heap) (hi : ops[i]? = some oi) (ha : ∀ a ∈ A, ∀ oa, ops[a]? = some oa → apartE ops oa oi = true)
    (hnb : ∀ k ∈ A ++ B, ((befs ops.toList []).getD i 0).testBit k = false) (hR : RB c ops a1 a2 e1 H1 e2 H2 (A ++ i :: B) e H) :
    okDst c.rc.isSome c.prot e oi.dst = true ∧ ∃ v K, gval c.P c.C c.rc ops e oi H = some (.ok v K) ∧ RB c ops a1 a2 e1 H1 e2 H2 (A ++ B) (put c.rc ops e oi v) K := by
  obtain ⟨hsort, hlt, hR⟩ := hR
  have hr : ∀ (j : Nat) (o : Oper), ops[j]? = some o → u08 o = false := fun j o hj => (u1r hcm hj).1
  have hs := List.pairwise_append.mp hsort
  have hsub : (A ++ B).Sublist (A ++ i :: B) := List.Sublist.append (List.Sublist.refl _) (List.sublist_cons_self _ _)
  have hsort' : (A ++ B).Pairwise (· < ·) := hsort.sublist hsub
  have hlt' : ∀ j ∈ A ++ B, j < ops.size := fun j hj => hlt j (hsub.subset hj)
  have hAi : ∀ a ∈ A, a < i := fun a h => hs.2.2 a h i List.mem_cons_self
  have hBi : ∀ b ∈ B, i < b := fun b h => (List.pairwise_cons.mp hs.2.1).1 b h
  have hnA : ∀ k ∈ A, ((befs ops.toList []).getD i 0).testBit k = false := fun k h => hnb k (List.mem_append_left _ h)
  rcases hR with ⟨m1, m2, hRA, hRB⟩ | ⟨hnot, hRR⟩
  · by_cases hi1 : i = a1
    · subst hi1
      obtain ⟨k1, v, K, k2, k3⟩ := RA.front hr A i B oi e H hi ha hnA (fun _ a haA oa hoa => by
        cases hq : isAl oa with
        | false => rfl
        | true =>
          have := hAi a haA
          rcases hal a oa hoa hq with h | h <;> omega) hRA
      refine ⟨k1, v, K, k2, hsort', hlt', .inr ⟨fun h => ?_, .inl k3⟩⟩
      rcases List.mem_append.mp h.1 with h | h
      · have := hAi _ h; omega
      · have := hBi _ h; omega
    · by_cases hi2 : i = a2
      · subst hi2
        have hA1 : a1 ∈ A := by
          rcases List.mem_append.mp m1 with h | h
          · exact h
          · rcases List.mem_cons.mp h with h | h
            · omega
            · have := hBi _ h; omega
        obtain ⟨A1, A2, rfl⟩ := List.append_of_mem hA1
        have hsA := List.pairwise_append.mp hs.1
        have n1 : ∀ x ∈ A1, x < a1 := fun x hx => hsA.2.2 x hx a1 List.mem_cons_self
        have n2 : ∀ x ∈ A2, a1 < x := fun x hx => (List.pairwise_cons.mp hsA.2.1).1 x hx
        have n3 : ∀ x ∈ A2, x < i := fun x hx => hAi x (List.mem_append_right _ (List.mem_cons_of_mem _ hx))
        have e1 : mvL a1 i (A1 ++ a1 :: A2 ++ i :: B) = A1 ++ i :: (a1 :: A2 ++ B) := by
          rw [u4k, u4k, u60, u60, mvL_id (l := A1) (fun h => by have := n1 _ h; omega) (fun h => by have := n1 _ h; omega), mvL_id (l := A2) (fun h => by have := n2 _ h; omega) (fun h => by have := n3 _ h; omega), mvL_id (l := B) (fun h => by have := hBi _ h; omega) (fun h => by have := hBi _ h; omega)]
          have q1 : (a1 == a1) = true := beq_self_eq_true _
          have q2 : (i == a1) = false := beq_false_of_ne hi1
          have q3 : (i == i) = true := beq_self_eq_true _
          rw [q1, q2, q3]
          simp
        rw [e1] at hRB
        obtain ⟨k1, v, K, k2, k3⟩ := RA.front hr A1 i (a1 :: A2 ++ B) oi e H hi (fun a h => ha a (List.mem_append_left _ h)) (fun k h => hnA k (List.mem_append_left _ h)) (fun _ a haA oa hoa => by
          cases hq : isAl oa with
          | false => rfl
          | true =>
            have := n1 a haA
            rcases hal a oa hoa hq with h | h <;> omega) hRB
        refine ⟨k1, v, K, k2, hsort', hlt', .inr ⟨fun h => ?_, .inr ?_⟩⟩
        · rcases List.mem_append.mp h.2 with h | h
          · have := hAi _ h; omega
          · have := hBi _ h; omega
        · have : A1 ++ (a1 :: A2 ++ B) = A1 ++ a1 :: A2 ++ B := by simp
          rw [this] at k3
          exact k3
      · have hna : isAl oi = false := by
          cases hq : isAl oi with
          | false => rfl
          | true => rcases hal i oi hi hq with h | h <;> contradiction
        obtain ⟨k1, v, K, k2, k3⟩ := RA.front hr A i B oi e H hi ha hnA (fun h => by rw [hna] at h; cases h) hRA
        have e1 : mvL a1 a2 (A ++ i :: B) = mvL a1 a2 A ++ i :: mvL a1 a2 B := by
          rw [u4k, u60]
          have q1 : (i == a1) = false := beq_false_of_ne hi1
          have q2 : (i == a2) = false := beq_false_of_ne hi2
          rw [q1, q2]
          rfl
        rw [e1] at hRB
        have hA2 : ∀ x ∈ mvL a1 a2 A, x ∈ A ∨ (x = a2 ∧ a2 ∈ B ∧ a1 ∈ A) := fun x hx => by
          rcases ulj hx with h | ⟨rfl, h⟩
          · exact .inl h
          · rcases List.mem_append.mp m2 with h2 | h2
            · exact .inl h2
            · rcases List.mem_cons.mp h2 with h3 | h3
              · exact absurd h3.symm hi2
              · exact .inr ⟨rfl, h3, h⟩
        obtain ⟨k1', v', K', k2', k3'⟩ := RA.front hr (mvL a1 a2 A) i (mvL a1 a2 B) oi e H hi (fun x hx oa hoa => by
          rcases hA2 x hx with h | ⟨rfl, hB2, hA1⟩
          · exact ha x h oa hoa
          · have hix := hBi _ hB2
            rcases (u1r hcm hoa).2.2.2 i oi hix hi with h | h
            · exfalso
              have hil : i < ops.size := hlt i (by simp)
              have ha1 : a1 < i := hAi _ hA1
              -- the second variable stands ahead of i in the other order
              have hsp : ∃ X Y, mvL a1 x (List.range ops.size) = X ++ x :: Y ∧ i ∈ Y := by
                have hr1 : List.range ops.size = List.range a1 ++ a1 :: List.range' (a1 + 1) (ops.size - a1 - 1) := by
                  have := List.range_eq_range' (n := ops.size)
                  rw [List.range_eq_range', List.range_eq_range']
                  have e2 : List.range' 0 ops.size = List.range' 0 a1 ++ List.range' (0 + 1 * a1) (ops.size - a1) := by
                    rw [List.range'_append]
                    congr 1
                    omega
                  rw [e2]
                  congr 1
                  have e3 : ops.size - a1 = (ops.size - a1 - 1) + 1 := by omega
                  rw [e3, List.range'_succ]
                  simp
                refine ⟨mvL a1 x (List.range a1), a1 :: mvL a1 x (List.range' (a1 + 1) (ops.size - a1 - 1)), ?_, ?_⟩
                · rw [hr1, u4k, u60]
                  have q1 : (a1 == a1) = true := beq_self_eq_true _
                  rw [q1]
                  rfl
                · refine List.mem_cons_of_mem _ ?_
                  unfold mvL
                  rw [List.mem_flatMap]
                  refine ⟨i, ?_, ?_⟩
                  · rw [List.mem_range'_1]
                    omega
                  · have q1 : (i == a1) = false := beq_false_of_ne hi1
                    have q2 : (i == x) = false := beq_false_of_ne hi2
                    rw [q1, q2]
                    exact List.mem_cons_self
              obtain ⟨X, Y, hX, hY⟩ := hsp
              have := uba hcons hX hY
              rw [this] at h
              cases h
            · exact ufp h) (fun x hx => by
          rcases hA2 x hx with h | ⟨rfl, hB2, _⟩
          · exact hnA x h
          · exact hnb x (List.mem_append_right _ hB2)) (fun h => by rw [hna] at h; cases h) hRB
        rw [k2] at k2'
        cases k2'
        refine ⟨k1, v, K, k2, hsort', hlt', .inl ⟨?_, ?_, k3, by rw [u4k]; exact k3'⟩⟩
        · rcases List.mem_append.mp m1 with h | h
          · exact List.mem_append_left _ h
          · rcases List.mem_cons.mp h with h | h
            · exact absurd h.symm hi1
            · exact List.mem_append_right _ h
        · rcases List.mem_append.mp m2 with h | h
          · exact List.mem_append_left _ h
          · rcases List.mem_cons.mp h with h | h
            · exact absurd h.symm hi2
            · exact List.mem_append_right _ h
  · have hal' : isAl oi = true → ∀ a ∈ A, ∀ oa, ops[a]? = some oa → isAl oa = false := fun h a haA oa hoa => by
      cases hq : isAl oa with
      | false => rfl
      | true =>
        exfalso
        have := hAi a haA
        refine hnot ?_
        rcases hal i oi hi h with h1 | h1 <;> rcases hal a oa hoa hq with h2 | h2 <;> subst h1 h2
        · omega
        · omega
        · exact ⟨List.mem_append_left _ haA, List.mem_append_right _ List.mem_cons_self⟩
        · omega
    have hnot' : ¬ (a1 ∈ A ++ B ∧ a2 ∈ A ++ B) := fun h => hnot ⟨hsub.subset h.1, hsub.subset h.2⟩
    rcases hRR with hRR | hRR
    · obtain ⟨k1, v, K, k2, k3⟩ := RA.front hr A i B oi e H hi ha hnA hal' hRR
      exact ⟨k1, v, K, k2, hsort', hlt', .inr ⟨hnot', .inl k3⟩⟩
    · obtain ⟨k1, v, K, k2, k3⟩ := RA.front hr A i B oi e H hi ha hnA hal' hRR
      exact ⟨k1, v, K, k2, hsort', hlt', .inr ⟨hnot', .inr k3⟩⟩
def swG (g : G) (n : Nat) : G := { g with ι := g.ι.take n ++ [g.ι.getD (n + 1) 0, g.ι.getD n 0] }
theorem swG_lt {g : G} {n i b : Nat} (hl : g.ι.length = n + 2) (h : (g.ι.take n)[i]? = some b) : (swG g n).ι[i]? = some b := by
  have hi : i < (g.ι.take n).length := (List.getElem?_eq_some_iff.mp h).1
  unfold swG
  rw [List.getElem?_append_left hi]
  exact h
theorem swG_at {g : G} {n i b : Nat} (hl : g.ι.length = n + 2) (h : (swG g n).ι[i]? = some b) : (i < n ∧ g.ι[i]? = some b) ∨ (i = n ∧ g.ι[n + 1]? = some b) ∨ (i = n + 1 ∧ g.ι[n]? = some b) := by
  have hlt : (g.ι.take n).length = n := by rw [List.length_take]; omega
  unfold swG at h
  by_cases hi : i < n
  · left
    rw [List.getElem?_append_left (by omega), List.getElem?_take, if_pos hi] at h
    exact ⟨hi, h⟩
  · right
    rw [List.getElem?_append_right (by omega), hlt] at h
    have gd : ∀ k, k < n + 2 → g.ι[k]? = some (g.ι.getD k 0) := fun k hk => by
      rw [List.getD_eq_getElem?_getD, List.getElem?_eq_getElem (by omega)]
      rfl
    by_cases h0 : i = n
    · subst h0
      rw [Nat.sub_self] at h
      have h : some (g.ι.getD (i + 1) 0) = some b := h
      exact .inl ⟨rfl, by rw [gd _ (by omega), h]⟩
    · by_cases h1 : i = n + 1
      · subst h1
        have e : n + 1 - n = 1 := by omega
        rw [e] at h
        have h : some (g.ι.getD n 0) = some b := h
        exact .inr ⟨rfl, by rw [gd _ (by omega), h]⟩
      · have e : i - n = (i - n - 2) + 2 := by omega
        rw [e] at h
        simp at h
theorem uhv {g : G} {n : Nat} (hl : g.ι.length = n + 2) (S : Owner → Prop) : Grow S { g with ι := g.ι.take n } (swG g n) := ⟨fun i b hb => swG_lt hl hb, fun _ _ _ h => h, fun _ _ _ _ h => ⟨h, fun _ h => h⟩⟩
theorem uny {g : G} {n : Nat} {L : Owner} {p q : PV} {v : Value} (hl : g.ι.length = n + 2) (hr : renV n p q) (h : RepT g L q v) : RepT (swG g n) L p v := by
  have gd : ∀ k, k < n + 2 → g.ι[k]? = some (g.ι.getD k 0) := fun k hk => by
    rw [List.getD_eq_getElem?_getD, List.getElem?_eq_getElem (by omega)]
    rfl
  have hlt : (g.ι.take n).length = n := by rw [List.length_take]; omega
  have ptr : ∀ {id off : Nat} {v : Value}, RepT g L (.ptr id off) v → ∃ b, g.ι[id]? = some b ∧ v = .pointer (some ⟨b, off, none⟩) := fun h => by
    cases h with
    | one h => cases h with
      | pure h => cases h with
        | flat h => cases h
        | ptr h => exact ⟨_, h, rfl⟩
  rcases hr with ⟨rfl, hlow⟩ | ⟨o, rfl, rfl⟩ | ⟨o, rfl, rfl⟩
  · have h2 := h.lowT hlow
    have hg : Grow (fun _ => True) { g with ι := g.ι.take n } (swG g n) := ⟨fun i b hb => swG_lt hl hb, fun _ _ _ h => h, fun _ _ _ _ h => ⟨h, fun _ h => h⟩⟩
    exact h2.mono hg True.intro (fun _ => True.intro)
  · obtain ⟨b, hb, rfl⟩ := ptr h
    refine .one (.pure (.ptr ?_))
    unfold swG
    rw [List.getElem?_append_right (by omega), hlt, Nat.sub_self]
    show some (g.ι.getD (n + 1) 0) = some b
    rw [← gd _ (by omega), hb]
  · obtain ⟨b, hb, rfl⟩ := ptr h
    refine .one (.pure (.ptr ?_))
    unfold swG
    rw [List.getElem?_append_right (by omega), hlt]
    have e : n + 1 - n = 1 := by omega
    rw [e]
    show some (g.ι.getD n 0) = some b
    rw [← gd _ (by omega), hb]
theorem umq {g : G} {w : World} {a : Act} {Δ : List Dfr} {n : Nat} {e1 e2 : Env} {H1 H2 : Heap} (hp : c.prot = []) (hsw : u6w n e1 H1 e2 H2) (hS : Sta c g H2 e2 a w Δ) : Sta c (swG g n) H1 e1 a w Δ := by
  obtain ⟨H0, x1, x2, hn, rfl, rfl, hx, hlen, hren⟩ := hsw
  obtain ⟨hinv, htok, hdef⟩ := hS
  have hl : g.ι.length = n + 2 := by rw [hinv.len]; simp [hn]
  have hlt : (g.ι.take n).length = n := by rw [List.length_take]; omega
  have hΔ : DefsOk c (swG g n) e1 Δ a.defers := by
    cases Δ with
    | nil =>
      cases hd : a.defers with
      | nil => exact True.intro
      | cons x y => rw [hd] at hdef; exact hdef.elim
    | cons x y =>
      cases hd : a.defers with
      | nil => rw [hd] at hdef; exact hdef.elim
      | cons x' y' => rw [hd] at hdef; exact absurd hp hdef.2.1.1
  refine ⟨⟨?_, ?_, hinv.im, hinv.ow, ?_, hinv.gl⟩, ⟨htok.one, hlen.trans htok.len, fun t v p h1 h2 => ?_, fun t p h1 h2 => ?_⟩, hΔ⟩
  · unfold swG
    simp only [List.length_append, List.length_take, List.length_cons, List.length_nil]
    omega
  · intro i j b hi hj
    rcases swG_at hl hi with ⟨a1, a2⟩ | ⟨a1, a2⟩ | ⟨a1, a2⟩ <;> rcases swG_at hl hj with ⟨b1, b2⟩ | ⟨b1, b2⟩ | ⟨b1, b2⟩ <;> have := hinv.nd _ _ _ a2 b2 <;> omega
  · intro id b x hb hx'
    have low : ∀ {p : PV} {v : Value} {L L' : Owner}, RepS g L p v → p.low n = true → stripC p = p → RepS (swG g n) L' p v := @fun p v L L' h h1 h2 => by
      have h3 := (h.strip (L' := L')).low (n := n) (by rw [h2]; exact h1)
      rw [h2] at h3
      exact h3.mono (uhv hl (fun _ => True)) True.intro
    rcases swG_at hl hb with ⟨a1, a2⟩ | ⟨a1, a2⟩ | ⟨a1, a2⟩
    · have hx2 : (H0 ++ [Box.cells x2, .cells x1])[id]? = some x := by
        rw [List.getElem?_append_left (by omega)] at hx' ⊢
        exact hx'
      have hbx := hinv.box id b x a2 hx2
      cases x with
      | cells cs =>
        obtain ⟨k1, k2, vs, T, k3, k4, k5⟩ := hbx
        refine ⟨k1, k2, vs, T, k3, k4, fun o cc vv hc hv => ?_⟩
        obtain ⟨q1, q2, q3⟩ := k5 o cc vv hc hv
        have q4 := q1.low (n := n) (u5y (by omega) cc q3)
        exact ⟨q4.mono (uhv hl (fun _ => True)) True.intro, q2, q3⟩
      | iter s pos => exact hbx
      | dead => exact hbx
    · subst a1
      have hx2 : x = .cells x1 := by
        rw [List.getElem?_append_right (by omega), hn, Nat.sub_self] at hx'
        exact (Option.some.inj hx').symm
      subst hx2
      obtain ⟨k1, k2, vs, T, k3, k4, k5⟩ := hinv.box (id + 1) b (.cells x1) a2 (by
        rw [List.getElem?_append_right (by omega), hn]
        have e : id + 1 - id = 1 := by omega
        rw [e]
        rfl)
      refine ⟨k1, k2, vs, T, k3, k4, fun o cc vv hc hv => ?_⟩
      obtain ⟨q1, q2, q3⟩ := k5 o cc vv hc hv
      obtain ⟨l1, l2⟩ := hx cc (List.mem_append_left _ (List.mem_of_getElem? hc))
      exact ⟨low q1 l1 l2, q2, u5y (by omega) cc l1⟩
    · subst a1
      have hx2 : x = .cells x2 := by
        rw [List.getElem?_append_right (by omega), hn] at hx'
        have e : n + 1 - n = 1 := by omega
        rw [e] at hx'
        exact (Option.some.inj hx').symm
      subst hx2
      obtain ⟨k1, k2, vs, T, k3, k4, k5⟩ := hinv.box n b (.cells x2) a2 (by
        rw [List.getElem?_append_right (by omega), hn, Nat.sub_self]
        rfl)
      refine ⟨k1, k2, vs, T, k3, k4, fun o cc vv hc hv => ?_⟩
      obtain ⟨q1, q2, q3⟩ := k5 o cc vv hc hv
      obtain ⟨l1, l2⟩ := hx cc (List.mem_append_right _ (List.mem_of_getElem? hc))
      exact ⟨low q1 l1 l2, q2, u5y (by omega) cc l1⟩
  · have ht : t < e2.length := by
      have := (List.getElem?_eq_some_iff.mp h2).1
      omega
    have hq : e2[t]? = some (e2.getD t .undef) := by
      rw [List.getD_eq_getElem?_getD, List.getElem?_eq_getElem ht]
      rfl
    have hr := hren t
    have hpp : e1.getD t .undef = p := by rw [List.getD_eq_getElem?_getD, h2]; rfl
    rw [hpp] at hr
    exact uny hl hr (htok.val t v _ h1 hq)
  · have ht : t < e2.length := by
      have := (List.getElem?_eq_some_iff.mp h2).1
      omega
    have hq : e2[t]? = some (e2.getD t .undef) := by
      rw [List.getD_eq_getElem?_getD, List.getElem?_eq_getElem ht]
      rfl
    have hr := hren t
    have hpp : e1.getD t .undef = p := by rw [List.getD_eq_getElem?_getD, h2]; rfl
    rw [hpp] at hr
    have hs := htok.slot t _ h1 hq
    rcases hr with ⟨hr, _⟩ | ⟨o, _, hr⟩ | ⟨o, _, hr⟩
    · rw [hr]; exact hs
    · rw [hr] at hs; rcases hs with h | h <;> cases h
    · rw [hr] at hs; rcases hs with h | h <;> cases h
theorem uja {g0 gs g : G} {w0 w : World} {n : Nat} (hl : g.ι.length = n + 2) (hs : gs.ι.length = n) (h0 : Grow IsUp g0 gs) (h : Glob g0 w0 g w) : Glob g0 w0 (swG g n) w := by
  refine ⟨h.os, h.tape, h.output, h.size, fun b hb h1 h2 => ?_, ⟨fun i b hb => ?_, h.up.im, h.up.ow⟩⟩
  · obtain ⟨a1, a2, a3⟩ := h.old b hb h1 h2
    refine ⟨a1, fun hm => a2 ?_, a3⟩
    obtain ⟨i, hi⟩ := List.getElem?_of_mem hm
    rcases swG_at hl hi with ⟨_, k⟩ | ⟨_, k⟩ | ⟨_, k⟩ <;> exact List.mem_of_getElem? k
  · have h1 := h0.ι i b hb
    have hi : i < n := by rw [← hs]; exact (List.getElem?_eq_some_iff.mp h1).1
    have h2 := h.up.ι i b hb
    refine swG_lt hl ?_
    rw [List.getElem?_take, if_pos hi]
    exact h2
end Go.Proofs.YtiiepllnnjjmaaaDoor.Pi
