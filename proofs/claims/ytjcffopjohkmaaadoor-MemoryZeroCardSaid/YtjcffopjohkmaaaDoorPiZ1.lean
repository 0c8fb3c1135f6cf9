/- What the law rests on, part 2 of 4: a reading of the program's code over told data, and what it comes to. -/
import Derived.Test.YtjcffopjohkmaaaDoorPiZ0
set_option linter.unusedVariables false
set_option linter.unusedSimpArgs false
set_option maxRecDepth 100000
namespace Go.Proofs.YtjcffopjohkmaaaDoor.Pi
variable {P : Program} {g : G} {L L' : Owner} {w w' : World} {H : Heap} {x : Nat} {env : Env}
def G.fresh (g : G) (b n : Nat) (cells : Array Value) (used : Nat) (L : Owner) : G :=
  { g with im := fun b' o => if b' = b then (if o < used then cells[o]? else none) else g.im b' o, ow := fun b' => if b' = b then some (L, n) else g.ow b' }
theorem u5z {cells : Array Value} {T : TypeId} {xs : List PV} {sz cap : Nat} (L : Owner) (hi : Inv g H w) (hp : Pushed w w' (.cells cells T (0, 0))) (hsz : ∀ (i : Nat) (y : PV), xs[i]? = some y → y.cells.length = sz)
    (hc : xs.length ≤ cap) (hcs : cap * sz ≤ cells.size)
    (hr : ∀ (i : Nat) (y : PV) (j : Nat) (c : PV), xs[i]? = some y → y.cells[j]? = some c → ∃ v, cells[i * sz + j]? = some v ∧ RepF g.im c v) :
    Inv (g.fresh w.heap.size cells.size cells (xs.length * sz) L) H w' ∧ Glob g w (g.fresh w.heap.size cells.size cells (xs.length * sz) L) w' ∧ Grow (fun _ => True) g (g.fresh w.heap.size cells.size cells (xs.length * sz) L) ∧
    RepS (g.fresh w.heap.size cells.size cells (xs.length * sz) L) L (.slice true false sz xs) (.slice (some ⟨w.heap.size, 0, none⟩) xs.length cap) ∧
    RepF (g.fresh w.heap.size cells.size cells (xs.length * sz) L).im (.slice false false sz xs) (.slice (some ⟨w.heap.size, 0, none⟩) xs.length cap) := by
  have him : ∀ b o v, g.im b o = some v → (g.fresh w.heap.size cells.size cells (xs.length * sz) L).im b o = some v := by
    intro b o v hv
    have := hi.lt_im hv
    show (if b = w.heap.size then _ else _) = _
    rw [if_neg (by omega)]
    exact hv
  have hne : ∀ b, b ≠ w.heap.size → (g.fresh w.heap.size cells.size cells (xs.length * sz) L).im b = g.im b ∧ (g.fresh w.heap.size cells.size cells (xs.length * sz) L).ow b = g.ow b := by
    intro b hb
    constructor
    · funext o
      show (if b = w.heap.size then _ else _) = _
      rw [if_neg hb]
    · show (if b = w.heap.size then _ else _) = _
      rw [if_neg hb]
  have hgrow : Grow (fun _ => True) g (g.fresh w.heap.size cells.size cells (xs.length * sz) L) := ⟨IoLe.refl _, him, fun b M s _ hb => by
    have := hi.lt_ow hb
    obtain ⟨e1, e2⟩ := hne b (by omega)
    exact ⟨by rw [e2]; exact hb, fun o ho => by rw [e1]; exact ho⟩, rfl⟩
  have hlt : ∀ (i : Nat) (y : PV) (j : Nat) (c : PV), xs[i]? = some y → y.cells[j]? = some c → i * sz + j < xs.length * sz := by
    intro i y j c hy hcj
    have h1 : i < xs.length := (List.getElem?_eq_some_iff.mp hy).1
    have h2 : j < sz := by rw [← hsz i y hy]; exact (List.getElem?_eq_some_iff.mp hcj).1
    calc i * sz + j < i * sz + sz := by omega
      _ = (i + 1) * sz := by rw [Nat.add_mul, Nat.one_mul]
      _ ≤ xs.length * sz := Nat.mul_le_mul_right _ h1
  have hget : ∀ (i : Nat) (y : PV) (j : Nat) (c : PV), xs[i]? = some y → y.cells[j]? = some c → (g.fresh w.heap.size cells.size cells (xs.length * sz) L).im w.heap.size (0 + i * sz + j) = some (cells.getD (i * sz + j) undef) := by
    intro i y j c hy hcj
    obtain ⟨v, hv, _⟩ := hr i y j c hy hcj
    show (if w.heap.size = w.heap.size then (if 0 + i * sz + j < xs.length * sz then cells[0 + i * sz + j]? else none) else _) = _
    rw [if_pos rfl, Nat.zero_add, if_pos (hlt i y j c hy hcj), hv]
    simp [Array.getD_eq_getD_getElem?, hv]
  have hrep : ∀ (i : Nat) (y : PV) (j : Nat) (c : PV), xs[i]? = some y → y.cells[j]? = some c → RepF (g.fresh w.heap.size cells.size cells (xs.length * sz) L).im c (cells.getD (i * sz + j) undef) := by
    intro i y j c hy hcj
    obtain ⟨v, hv, hr'⟩ := hr i y j c hy hcj
    have : cells.getD (i * sz + j) undef = v := by simp [Array.getD_eq_getD_getElem?, hv]
    rw [this]
    exact hr'.mono him
  refine ⟨⟨hi.len, hi.nd, fun b o v hv => ?_, fun b M s hb => ?_, fun id b y hb hy => ?_, hi.gl.mono hgrow.im, fun b s hb => by have := hi.zl b s hb; rw [hp.size]; omega, hi.nn⟩, ⟨hp.os, hp.tape, hp.output, by rw [hp.size]; omega, fun b hb h1 h2 => ?_, hgrow.sub (fun _ _ => trivial)⟩, hgrow,
    .own (fun i j => cells.getD (i * sz + j) undef) hc hsz hget hrep (by show (if w.heap.size = w.heap.size then _ else _) = _; rw [if_pos rfl]) (by simpa using hcs) (fun off ho => ?_),
    .slice (fun i j => cells.getD (i * sz + j) undef) (.inl rfl) hc hsz hget hrep⟩
  · by_cases e : b = w.heap.size
    · subst e
      have hv2 : (if o < xs.length * sz then cells[o]? else none) = some v := by
        have : (if w.heap.size = w.heap.size then (if o < xs.length * sz then cells[o]? else none) else g.im w.heap.size o) = some v := hv
        rwa [if_pos rfl] at this
      split at hv2
      · rw [u2y hp.new]
        exact hv2
      · cases hv2
    · rw [(hne b e).1] at hv
      rw [hp.cell (hi.lt_im hv)]
      exact hi.im b o v hv
  · by_cases e : b = w.heap.size
    · subst e
      have hb2 : some (L, cells.size) = some (M, s) := by
        have : (if w.heap.size = w.heap.size then some (L, cells.size) else g.ow w.heap.size) = some (M, s) := hb
        rwa [if_pos rfl] at this
      simp only [Option.some.injEq, Prod.mk.injEq] at hb2
      exact ⟨cells, T, hp.new, hb2.2⟩
    · rw [(hne b e).2] at hb
      rw [hp.old (hi.lt_ow hb)]
      exact hi.ow b M s hb
  · have hlt := hi.lt_ι hb
    obtain ⟨e1, e2⟩ := hne b (by omega)
    exact (hi.box id b y hb hy).mono (hgrow.sub (fun _ _ => trivial)) (fun h => by rw [e2]; exact h) (fun h o => by rw [e1]; exact h o) (hp.old hlt) (by rw [hp.size]; omega)
  · obtain ⟨e1, e2⟩ := hne b (by omega)
    exact ⟨by rw [e2]; exact h1, h2, hp.old hb⟩
  · show (if w.heap.size = w.heap.size then (if off < xs.length * sz then cells[off]? else none) else _) = _
    rw [if_pos rfl, if_neg (by omega)]
theorem Pushed.drew (w : World) (o : Obj) : Pushed w (w.drew.alloc o) o := ⟨rfl, rfl, rfl, rfl⟩
theorem ub8 {a : Option Nat} {p : PV} (h : u0a a p = true) : p.cells.length = a.getD 1 ∧ isCell p = true ∨ ∃ cs, p = .agg cs ∧ cs.length = a.getD 1 := by
  unfold u0a at h
  simp only [Bool.and_eq_true] at h
  obtain ⟨h1, h2⟩ := h
  cases a with
  | none =>
    cases p <;> simp at h2 <;> first | (simp [PV.flat] at h1; done) | exact .inl ⟨rfl, rfl⟩
  | some n =>
    cases p <;> simp at h2
    exact .inr ⟨_, rfl, by simpa using h2⟩
mutual
theorem u96 : ∀ (p : PV) {v : Value}, p.flat = true → Rep g.io g.im p v → isCell p = true → RepF g.im p v
  | .int .., _, _, h, _ => by cases h with | flat h => exact h
  | .bool _, _, _, h, _ => by cases h with | flat h => exact h
  | .str _, _, _, h, _ => by cases h with | flat h => exact h
  | .slice .., _, _, h, _ => by cases h with | flat h => exact h
  | .nil, _, _, h, _ => by cases h with | flat h => exact h
  | .nilfn, _, _, h, _ => by cases h with | flat h => exact h
  | .niliface, _, _, h, _ => by cases h with | flat h => exact h
  | .agg _, _, _, _, h => by simp [isCell] at h
  | .ptr .., _, h, _, _ => by simp [PV.flat] at h
  | .elem _, _, h, _, _ => by simp [PV.flat] at h
  | .fn .., _, h, _, _ => by simp [PV.flat] at h
  | .iface .., _, h, _, _ => by simp [PV.flat] at h
  | .tup _, _, h, _, _ => by simp [PV.flat] at h
  | .undef, _, h, _, _ => by simp [PV.flat] at h
end
theorem u73 : ∀ {l : List PV}, flatL l = true → ∀ (j : Nat) (c : PV), l[j]? = some c → c.flat = true
  | [], _, j, c, h => by simp at h
  | v :: r, h, j, c, hc => by
    simp only [flatL, Bool.and_eq_true] at h
    cases j with
    | zero => simp at hc; subst hc; exact h.1
    | succ j => exact u73 h.2 j c (by simpa using hc)
theorem u4l {a : Option Nat} {p : PV} {v : Value} (h : u0a a (stripC p) = true) (hp : RepT g L p v) : v.cells.size = a.getD 1 ∧ (stripC p).cells.length = a.getD 1 ∧ (∀ u ∈ v.cells.toList, u.oneCell' = true) ∧
    ∀ (j : Nat) (c : PV) (u : Value), (stripC p).cells[j]? = some c → v.cells[j]? = some u → RepF g.im c u := by
  have hflat : (stripC p).flat = true := by
    unfold u0a at h
    simp only [Bool.and_eq_true] at h
    exact h.1
  rcases ub8 h with ⟨h1, h2⟩ | ⟨cs, h1, h2⟩
  · have hc : isCell p = true := by rwa [u10] at h2
    cases hp with
    | one hp =>
      have hone := u1o hp hc
      have e : v.cells = #[v] := by cases v <;> first | rfl | simp [Value.oneCell'] at hone
      have hl : (stripC p).cells = [stripC p] := by
        generalize stripC p = q at h2
        cases q <;> first | rfl | simp [isCell] at h2
      have hrep := hp.toRep (by cases p <;> first | rfl | simp [isCell] at hc)
      have hF := u96 _ hflat hrep h2
      rw [hl] at h1 ⊢
      simp at h1
      rw [e]
      refine ⟨by simpa using h1, by simpa using h1, fun u hu => by simp at hu; subst hu; exact hone, fun j c u hj hu => ?_⟩
      have hj0 : j = 0 := by
        have := (List.getElem?_eq_some_iff.mp hj).1
        simp at this
        omega
      subst hj0
      simp at hj hu
      subst hj; subst hu
      exact hF
    | tup => simp [isCell] at hc
    | aggo => simp [isCell] at hc
  · have hpa : p = .agg cs := by cases p <;> simp [stripC] at h1; rw [h1]
    subst hpa
    obtain ⟨vs, rfl, e1, e2, e3⟩ := hp.agg
    have hfl : flatL cs = true := by simpa [stripC, PV.flat] using hflat
    refine ⟨by simpa [Value.cells] using e1.trans h2, h2, fun u hu => ?_, fun j c u hj hu => u96 _ (u73 hfl j c hj) (e3 j c u hj hu) (e2 j c hj)⟩
    obtain ⟨j, hj, rfl⟩ := List.getElem_of_mem hu
    have hj2 : j < cs.length := by simp [Value.cells] at hj; omega
    have hj3 : j < vs.size := by omega
    have hk := e3 j cs[j] vs[j] (List.getElem?_eq_getElem hj2) (by simp [hj3])
    have := u1o (L := .res) (.pure hk) (e2 j _ (List.getElem?_eq_getElem hj2))
    simpa [Value.cells] using this
end Go.Proofs.YtjcffopjohkmaaaDoor.Pi
namespace Go.Proofs.YtjcffopjohkmaaaDoor.Pi
variable {P : Program} {g : G} {L L' : Owner} {w w' : World} {H : Heap} {x : Nat} {env : Env}
theorem uax {s : Nat} {vs : List Value} (hs : 0 < s) (hv : ∀ v ∈ vs, v.cells.size = s) {i j : Nat} (hj : j < s) : (vs.flatMap fun v => v.cells.toList)[i * s + j]? = (vs[i]?).bind (fun v => v.cells[j]?) := by
  rw [Great.flat_get hs vs hv]
  have h1 : (i * s + j) / s = i := by
    rw [Nat.mul_comm, Nat.mul_add_div hs, Nat.div_eq_of_lt hj, Nat.add_zero]
  have h2 : (i * s + j) % s = j := by
    rw [Nat.mul_comm, Nat.mul_add_mod, Nat.mod_eq_of_lt hj]
  rw [h1, h2]
theorem u97 {s : Nat} : ∀ (vs : List Value), (∀ v ∈ vs, v.cells.size = s) → (vs.flatMap fun v => v.cells.toList).length = vs.length * s
  | [], _ => by simp
  | v :: r, h => by
    rw [List.flatMap_cons, List.length_append, u97 r (fun u hu => h u (List.mem_cons_of_mem _ hu)), List.length_cons, Nat.add_mul]
    have := h v List.mem_cons_self
    simp [this]
    omega
theorem bs_ok {t e : TypeId} {n : Nat} {ps : Array (Nat × Operand)} {a : Act} {out : Out PV} {own : Bool} (d : Option Tmp) (hd : ∀ t, d = some t → own = true) (hu : P.underlying t = some (.slice e)) (hk : known P e = true) (hpos : 0 < tsize P e) (hroom : n * tsize P e ≤ 16777216)
    (hag : (tagg P e).getD 1 = tsize P e) (hz : ∃ i z, P.info? e = some i ∧ i.zero = some z ∧ z.cells.size = tsize P e)
    (hps : ps.toList.map (·.1) = List.range n) (h : bs own (tagg P e) (ps.toList.map fun p => ev env p.2) H = some out) (hi : Inv g H w) (ht : TOk x g env a.tmps) :
    ValOk P x g w env a.tmps d (Instr.buildSlice t n (ps.map fun (i, y) => (i, a.eval y))) out := by
  obtain ⟨i, z, hinf, hzero, hzs⟩ := hz
  unfold bs at h
  cases hc : ((ps.toList.map fun p => ev env p.2).map stripC).all (u0a (tagg P e)) with
  | false => rw [hc] at h; simp [M.fail] at h
  | true =>
    rw [hc] at h
    simp only [cond_true, M.pure, Option.some.injEq] at h
    subst h
    have hall : ∀ (j : Nat) (p : PV), (ps.toList.map fun p => ev env p.2)[j]? = some p → u0a (tagg P e) (stripC p) = true := by
      intro j p hj
      have : stripC p ∈ (ps.toList.map fun p => ev env p.2).map stripC := List.mem_map.mpr ⟨p, List.mem_of_getElem? hj, rfl⟩
      exact List.all_eq_true.mp hc _ this
    have hrepj : ∀ (j : Nat) (q : Nat × Operand), ps.toList[j]? = some q → RepT g (whose q.2) (ev env q.2) (a.eval q.2) := fun j q _ => ev_rep hi ht q.2
    have hvs : ∀ v ∈ ps.toList.map (fun q => a.eval q.2), v.cells.size = tsize P e := by
      intro v hv
      obtain ⟨q, hq, rfl⟩ := List.mem_map.mp hv
      obtain ⟨j, hj, hje⟩ := List.getElem_of_mem hq
      have h1 := hall j (ev env q.2) (by rw [List.getElem?_map, List.getElem?_eq_getElem hj, hje]; rfl)
      rw [← hag]
      exact (u4l h1 (ev_rep hi ht q.2)).1
    have hlen : ps.toList.length = n := by
      have := congrArg List.length hps
      simpa using this
    have hparts : (ps.map fun (i, y) => (i, a.eval y)).toList = (((ps.toList.map (fun q => a.eval q.2)).zipIdx 0).map fun y => (y.2, y.1)) := by
      apply List.ext_getElem?
      intro j
      simp only [Array.toList_map, List.getElem?_map, List.getElem?_zipIdx]
      cases hj : ps.toList[j]? with
      | none => rfl
      | some q =>
        have hjl : j < ps.toList.length := (List.getElem?_eq_some_iff.mp hj).1
        have h1 : (ps.toList.map (·.1))[j]? = some q.1 := by simp only [List.getElem?_map, hj, Option.map_some]
        rw [hps] at h1
        have h2 : q.1 = j := by
          rw [List.getElem?_range (by omega)] at h1
          exact (Option.some.inj h1).symm
        simp [h2]
    have hfill := Great.fill_whole hpos (ps.toList.map (fun q => a.eval q.2)) ((Array.range (n * tsize P e)).map (z.cells[· % z.cells.size]!)) hvs (by simp; simpa using congrArg (· * tsize P e) hlen)
    have hrun : (Instr.buildSlice t n (ps.map fun (i, y) => (i, a.eval y))).run P w = .ok (.slice (some ⟨w.heap.size, 0, none⟩) n n) (w.alloc (.cells ((ps.toList.map (fun q => a.eval q.2)).flatMap fun v => v.cells.toList).toArray e)) := by
      have h2 : ¬ (16777216 < n * tsize P e) := by omega
      by_cases h0 : n * tsize P e = 0
      · have hn0 : n = 0 := by
          rcases Nat.mul_eq_zero.mp h0 with h | h <;> omega
        subst hn0
        have hpe : ps.toList = [] := List.eq_nil_of_length_eq_zero hlen
        have hpe2 : ps = #[] := by simpa using hpe
        subst hpe2
        simp [Instr.buildSlice, run_underlying hu, u07 (w := w) hinf, newRow, Instr.fill, Array.range_zero']
      · simp only [Instr.buildSlice, Sem.run_bind, run_underlying hu, Result.andThen_ok, u07 (w := w) hinf]
        rw [hparts]
        simp [h2, h0, zeroValue, typeInfo, hinf, hzero, hfill, newRow]
    have hp := Pushed.alloc w (.cells ((ps.toList.map (fun q => a.eval q.2)).flatMap fun v => v.cells.toList).toArray e)
    have hxl : ((ps.toList.map fun p => ev env p.2).map stripC).length = n := by simpa using hlen
    have helem : ∀ (i : Nat) (y : PV), ((ps.toList.map fun p => ev env p.2).map stripC)[i]? = some y → ∃ q, ps.toList[i]? = some q ∧ y = stripC (ev env q.2) := by
      intro i y hy
      simp only [List.getElem?_map, Option.map_eq_some_iff] at hy
      obtain ⟨p, ⟨q, hq, rfl⟩, rfl⟩ := hy
      exact ⟨q, hq, rfl⟩
    obtain ⟨r1, r2, r3, r4, r5⟩ := u5z (xs := (ps.toList.map fun p => ev env p.2).map stripC) (sz := (tagg P e).getD 1) (cap := n) (.tmp (d.getD 0)) hi hp (fun i y hy => by
        obtain ⟨q, hq, rfl⟩ := helem i y hy
        exact (u4l (hall i _ (by simp only [List.getElem?_map, hq, Option.map_some])) (ev_rep hi ht q.2)).2.1) (by omega) (by
        rw [List.size_toArray, u97 _ hvs, hag]
        simp only [List.length_map]
        rw [hlen]
        exact Nat.le_refl _) (fun i y j c hy hj => by
        obtain ⟨q, hq, rfl⟩ := helem i y hy
        obtain ⟨e1, e2, e3, e4⟩ := u4l (hall i _ (by simp only [List.getElem?_map, hq, Option.map_some])) (ev_rep hi ht q.2)
        have hjs : j < tsize P e := by rw [← hag, ← e2]; exact (List.getElem?_eq_some_iff.mp hj).1
        have hjc : j < (a.eval q.2).cells.size := by omega
        refine ⟨(a.eval q.2).cells[j], ?_, e4 j c _ hj (by simp [hjc])⟩
        rw [List.getElem?_toArray, hag, uax hpos hvs hjs]
        simp [hq, hjc])
    refine ⟨.slice (some ⟨w.heap.size, 0, none⟩) ((ps.toList.map fun p => ev env p.2).map stripC).length n, _, _, (by rw [hxl]; exact hrun), r2, r1, ht.mono r3 (fun _ _ => trivial), fun t' ht' => ?_⟩
    subst ht'
    have ho := hd t' rfl
    subst ho
    exact .one r4
end Go.Proofs.YtjcffopjohkmaaaDoor.Pi
namespace Go.Proofs.YtjcffopjohkmaaaDoor.Pi
variable {P : Program} {g : G} {L L' : Owner} {w w' : World} {H : Heap} {x : Nat} {env : Env}
theorem u13 {e : TypeId} (h : listOk P e = true) : known P e = true ∧ 0 < tsize P e ∧ (tagg P e).getD 1 = tsize P e ∧ ∃ i z, P.info? e = some i ∧ i.zero = some z ∧ z.cells.size = tsize P e ∧ i.size = tsize P e ∧ i.bytes = tbytes P e := by
  unfold listOk at h
  simp only [Bool.and_eq_true, decide_eq_true_eq, beq_iff_eq] at h
  obtain ⟨h1, h2, h3, h4⟩ := h
  refine ⟨h1, h2, h3, ?_⟩
  split at h4
  · rename_i i hi
    split at h4
    · rename_i z hz
      exact ⟨i, z, hi, hz, by simpa using h4, by simp [tsize, hi], by simp [tbytes, hi]⟩
    · simp at h4
  · simp at h4
structure Src (P : Program) (w : World) (size : Nat) (v : Value) (n : Nat) (news : List Value) : Prop where
  len : ∀ w', (Builtin.lenOf v).run P w' = .ok n w'
  cells : ∀ w', w'.heap = w.heap → (Builtin.firstCells size n v).run P w' = .ok news.toArray w'
  size : news.length = n * size
  one : ∀ u ∈ news, u.oneCell' = true
def u2w (P : Program) (u : TypeId) : Prop := ∃ d, P.underlying u = some d ∧ ∀ k, d ≠ .int k
section
variable {t u ty e : TypeId} {i : TypeInfo} {z : Value} {v : Value} {n : Nat} {news : List Value}
theorem u7t (ht : P.underlying t = some (.slice e)) (hu : u2w P u) (hi : P.info? e = some i) (hs : Src P w i.size v n news) {b off sLen sCap : Nat} {cur : Array Value} {T : TypeId} (hg : w.heap[b]? = some (.cells cur T (0, 0)))
    (hroom : sLen + n ≤ sCap) (hfit : off + sLen * i.size + news.length ≤ cur.size) :
    (Builtin.append_ #[t, u] ty #[.slice (some ⟨b, off, none⟩) sLen sCap, v]).run P w = .ok (.slice (some ⟨b, off, none⟩) (sLen + n) sCap)
      (w.setRow b (cur.toList.take (off + sLen * i.size) ++ news ++ cur.toList.drop (off + sLen * i.size + news.length)).toArray) := by
  obtain ⟨d, hd, hnd⟩ := hu
  have hst := run_storeCells_at P b (off + sLen * i.size) T news 0 cur w hg (by simpa using hfit) hs.one
  simp only [Nat.add_zero] at hst
  have hadd : (⟨b, off, none⟩ : Addr).add (sLen * i.size) = ⟨b, off + sLen * i.size, none⟩ := by unfold Addr.add; split <;> simp_all
  have hz : (match d with | .int _ => true | _ => false) = false := by cases d <;> first | rfl | exact absurd rfl (hnd _)
  simp [Builtin.append_, run_underlying ht, run_underlying hd, sizeOf, typeInfo, hi, hz, hs.len, hroom, hs.cells w rfl, hadd, hst]
theorem u7s (ht : P.underlying t = some (.slice e)) (hu : u2w P u) (hi : P.info? e = some i) (hz : i.zero = some z) (hs : Src P w i.size v n news) {b off sLen sCap : Nat} {olds : List Value}
    (ho : Src P w i.size (.slice (some ⟨b, off, none⟩) sLen sCap) sLen olds)
    (hg : sCap < sLen + n) (h63 : ((sLen + n : Nat) : Int) ≤ 9223372036854775807) (hfit : Builtin.nextslicecap (sLen + n) sCap * i.bytes ≤ 281474976710656) :
    (Builtin.append_ #[t, u] ty #[.slice (some ⟨b, off, none⟩) sLen sCap, v]).run P w =
      .ok (.slice (some ⟨w.heap.size, 0, none⟩) (sLen + n) (grownCap w (sLen + n) sCap e))
        (w.drew.alloc (.cells (olds.toArray ++ news.toArray ++ Builtin.zeroCells z.cells (grownCap w (sLen + n) sCap e - (sLen + n))) e)) := by
  obtain ⟨d, hd, hnd⟩ := hu
  have hz' : (match d with | .int _ => true | _ => false) = false := by cases d <;> first | rfl | exact absurd rfl (hnd _)
  have hn : ¬ (sLen + n ≤ sCap) := by omega
  have h63' : ¬ (9223372036854775807 < ((sLen : Int) + (n : Int))) := by omega
  have h48' : ¬ (281474976710656 < Builtin.nextslicecap (sLen + n) sCap * i.bytes) := by omega
  have hf := hs.cells w.drew rfl
  have hfo := ho.cells w.drew rfl
  simp [Builtin.append_, run_underlying ht, run_underlying hd, sizeOf, typeInfo, zeroValue, hi, hz, hz', hs.len, hn, h63', h48', Question.forced, hf, hfo, newRow, grownCap]
  congr 2
  apply Array.ext'
  simp [List.append_assoc]
theorem u8w (ht : P.underlying t = some (.slice e)) (hu : u2w P u) (hi : P.info? e = some i) (hz : i.zero = some z) (hs : Src P w i.size v n news)
    (h0 : 0 < n) (h63 : (n : Int) ≤ 9223372036854775807) (h48 : n * i.bytes ≤ 281474976710656) :
    (Builtin.append_ #[t, u] ty #[.slice none 0 0, v]).run P w =
      .ok (.slice (some ⟨w.heap.size, 0, none⟩) n (grownCap w n 0 e)) (w.drew.alloc (.cells (news.toArray ++ Builtin.zeroCells z.cells (grownCap w n 0 e - n)) e)) := by
  obtain ⟨d, hd, hnd⟩ := hu
  have hz' : (match d with | .int _ => true | _ => false) = false := by cases d <;> first | rfl | exact absurd rfl (hnd _)
  have hn : n ≠ 0 := by omega
  have h63' : ¬ (9223372036854775807 < (n : Int)) := by omega
  have h48' : ¬ (281474976710656 < Builtin.nextslicecap n 0 * i.bytes) := by rw [nextslicecap_zero h0]; omega
  have hf := hs.cells w.drew rfl
  simp [Builtin.append_, run_underlying ht, run_underlying hd, sizeOf, typeInfo, zeroValue, hi, hz, hz', hs.len, hn, h63', h48', Question.forced, run_firstCells_none, hf, newRow, grownCap]
theorem u7d (ht : P.underlying t = some (.slice e)) (hu : u2w P u) (hi : P.info? e = some i) (hs : Src P w i.size v 0 []) :
    (Builtin.append_ #[t, u] ty #[.slice none 0 0, v]).run P w = .ok (.slice none 0 0) w := by
  obtain ⟨d, hd, hnd⟩ := hu
  have hz' : (match d with | .int _ => true | _ => false) = false := by cases d <;> first | rfl | exact absurd rfl (hnd _)
  simp [Builtin.append_, run_underlying ht, run_underlying hd, sizeOf, typeInfo, hi, hz', hs.len, hs.cells w rfl]
end
theorem src_of {sz : Nat} {q : PV} {v : Value} {ys : List PV} (hpos : 0 < sz) (h : tail sz q = some ys) (hi : Inv g H w) (hq : RepT g L q v) :
    ∃ news, Src P w sz v ys.length news ∧ (∀ (i : Nat) (y : PV), ys[i]? = some y → y.cells.length = sz) ∧
      ∀ (i : Nat) (y : PV) (j : Nat) (c : PV), ys[i]? = some y → y.cells[j]? = some c → ∃ u, news[i * sz + j]? = some u ∧ RepF g.im c u := by
  cases q with
  | slice o z sy xs =>
    unfold tail at h
    dsimp only at h
    cases hc : (z || sy == sz) with
    | false => rw [hc] at h; simp at h
    | true =>
      rw [hc] at h
      simp only [cond_true, Option.some.injEq] at h
      subst h
      rcases hq.slice with ⟨rfl, rfl, rfl, rfl⟩ | ⟨rfl, b, off, cap, sp, vs, rfl, hsp, h1, h2, h3, h4, _⟩
      · exact ⟨[], ⟨fun w' => by simp [Builtin.lenOf], fun w' _ => by simp [Builtin.firstCells], by simp, by simp⟩, fun i y hy => by simp at hy, fun i y j c hy => by simp at hy⟩
      · have hsy : sy = sz := by simpa using hc
        subst hsy
        rcases hsp with rfl | rfl
        rotate_left
        · have hx0 : xs = [] := List.eq_nil_of_length_eq_zero (by omega)
          subst hx0
          refine ⟨[], ⟨fun w' => by simp [Builtin.lenOf], fun w' _ => ?_, by simp, by simp⟩, fun i y hy => by simp at hy, fun i y j c hy => by simp at hy⟩
          have := run_firstCells_some (P := P) w' sy 0 ⟨b, off, sp⟩ 0 0 [] (by simp) (fun k q hq => by simp at hq)
          simpa using this
        have hnl : ((List.range (xs.length * sy)).map fun k => vs (k / sy) (k % sy)).length = xs.length * sy := by simp
        have key : ∀ k, k < xs.length * sy → ∃ y c, xs[k / sy]? = some y ∧ y.cells[k % sy]? = some c := by
          intro k hk
          have h5 : k / sy < xs.length := (Nat.div_lt_iff_lt_mul hpos).mpr hk
          have h6 : k % sy < (xs[k / sy]).cells.length := by
            rw [h2 (k / sy) xs[k / sy] (List.getElem?_eq_getElem h5)]
            exact Nat.mod_lt _ hpos
          exact ⟨xs[k / sy], (xs[k / sy]).cells[k % sy], List.getElem?_eq_getElem h5, List.getElem?_eq_getElem h6⟩
        refine ⟨(List.range (xs.length * sy)).map fun k => vs (k / sy) (k % sy), ⟨fun w' => by simp [Builtin.lenOf], fun w' hw' => ?_, hnl, fun u hu => ?_⟩, h2, fun i y j c hy hj => ?_⟩
        · have := run_firstCells_some (P := P) w' sy xs.length ⟨b, off, none⟩ xs.length cap ((List.range (xs.length * sy)).map fun k => vs (k / sy) (k % sy)) hnl (fun k q hq => by
            have hk : k < xs.length * sy := by
              have := (List.getElem?_eq_some_iff.mp hq).1
              simpa using this
            simp [hk] at hq
            subst hq
            obtain ⟨y, c, e1, e2⟩ := key k hk
            have hadd : (⟨b, off, none⟩ : Addr).add k = ⟨b, off + k, none⟩ := by unfold Addr.add; split <;> simp_all
            rw [hadd]
            have := hi.im _ _ _ (h3 _ _ _ _ e1 e2)
            have e3 : off + k / sy * sy + k % sy = off + k := by
              have := Nat.div_add_mod k sy
              rw [Nat.mul_comm] at this
              omega
            rw [e3] at this
            simpa [World.cell?, hw'] using this)
          exact this
        · obtain ⟨k, hk, rfl⟩ := List.mem_map.mp hu
          have hk2 : k < xs.length * sy := by simpa using hk
          obtain ⟨y, c, e1, e2⟩ := key k hk2
          have hr := h4 _ _ _ _ e1 e2
          exact u1o (g := g) (L := .res) (.pure (.flat hr)) hr.isCell
        · have hil : i < xs.length := (List.getElem?_eq_some_iff.mp hy).1
          have hjl : j < sy := by rw [← h2 i y hy]; exact (List.getElem?_eq_some_iff.mp hj).1
          have hk : i * sy + j < xs.length * sy := by
            calc i * sy + j < i * sy + sy := by omega
              _ = (i + 1) * sy := by rw [Nat.add_mul, Nat.one_mul]
              _ ≤ xs.length * sy := Nat.mul_le_mul_right _ hil
          have d1 : (i * sy + j) / sy = i := by rw [Nat.mul_comm, Nat.mul_add_div hpos, Nat.div_eq_of_lt hjl, Nat.add_zero]
          have d2 : (i * sy + j) % sy = j := by rw [Nat.mul_comm, Nat.mul_add_mod, Nat.mod_eq_of_lt hjl]
          exact ⟨vs i j, by simp [hk, d1, d2], h4 i y j c hy hj⟩
  | str s =>
    unfold tail at h
    dsimp only at h
    cases hc : (sz == 1) with
    | false => rw [hc] at h; simp at h
    | true =>
      rw [hc] at h
      simp only [cond_true, Option.some.injEq] at h
      subst h
      have hsz : sz = 1 := by simpa using hc
      subst hsz
      obtain rfl := hq.str
      refine ⟨s.data.toList.map fun b => .int .u8 b.toNat, ⟨fun w' => by simp [Builtin.lenOf], fun w' _ => ?_, by simp, fun u hu => ?_⟩, fun i y hy => ?_, fun i y j c hy hj => ?_⟩
      · simp only [Builtin.firstCells, Sem.run_pure, List.length_map, Array.length_toList, Nat.mul_one, Result.ok.injEq, and_true]
        have hx : s.extract 0 s.data.size = s := by
          apply ByteArray.ext
          simp [ByteArray.data_extract]
        rw [hx]
        apply Array.ext'
        simp
      · obtain ⟨b, _, rfl⟩ := List.mem_map.mp hu
        rfl
      · simp only [List.getElem?_map, Option.map_eq_some_iff] at hy
        obtain ⟨b, _, rfl⟩ := hy
        rfl
      · simp only [List.getElem?_map, Option.map_eq_some_iff] at hy
        obtain ⟨b, hb, rfl⟩ := hy
        have hj0 : j = 0 := by
          have := (List.getElem?_eq_some_iff.mp hj).1
          simp [PV.cells] at this
          omega
        subst hj0
        simp [PV.cells] at hj
        subst hj
        exact ⟨.int .u8 b.toNat, by
          simp only [Nat.mul_one, Nat.add_zero, List.getElem?_map, hb, Option.map_some], .int _ _⟩
  | _ => (unfold tail at h; exact nomatch h)
end Go.Proofs.YtjcffopjohkmaaaDoor.Pi
namespace Go.Proofs.YtjcffopjohkmaaaDoor.Pi
variable {P : Program} {g : G} {L L' : Owner} {w w' : World} {H : Heap} {x : Nat} {env : Env}
theorem uco {i j n sz : Nat} (hi : i < n) (hj : j < sz) : i * sz + j < n * sz := by
  calc i * sz + j < i * sz + sz := by omega
    _ = (i + 1) * sz := by rw [Nat.add_mul, Nat.one_mul]
    _ ≤ n * sz := Nat.mul_le_mul_right _ hi
def G.grown (g : G) (b lo hi : Nat) (cells : List Value) (s : Nat) (L : Owner) : G :=
  { g with im := fun b' o => if b' = b ∧ lo ≤ o ∧ o < hi then cells[o - lo]? else g.im b' o, ow := fun b' => if b' = b then some (L, s) else g.ow b' }
theorem ujt {b off cap sz S s d : Nat} {xs ys : List PV} {vs : Nat → Nat → Value} {news : List Value} (hi : Inv g H w) (hc : xs.length ≤ cap)
    (hsz : ∀ (i : Nat) (y : PV), xs[i]? = some y → y.cells.length = sz)
    (him : ∀ (i : Nat) (y : PV) (j : Nat) (c : PV), xs[i]? = some y → y.cells[j]? = some c → g.im b (off + i * sz + j) = some (vs i j))
    (hr : ∀ (i : Nat) (y : PV) (j : Nat) (c : PV), xs[i]? = some y → y.cells[j]? = some c → RepF g.im c (vs i j))
    (how : g.ow b = some (.tmp s, S)) (hs : off + cap * sz ≤ S) (hroom : ∀ k, off + xs.length * sz ≤ k → g.im b k = none)
    (hys : ∀ (i : Nat) (y : PV), ys[i]? = some y → y.cells.length = sz) (hnl : news.length = ys.length * sz)
    (hyr : ∀ (i : Nat) (y : PV) (j : Nat) (c : PV), ys[i]? = some y → y.cells[j]? = some c → ∃ u, news[i * sz + j]? = some u ∧ RepF g.im c u) (hfit : xs.length + ys.length ≤ cap)
    {cur : Array Value} {T : TypeId} (hb : w.heap[b]? = some (.cells cur T (0, 0))) (hcur : cur.size = S) :
    let g' := g.grown b (off + xs.length * sz) (off + xs.length * sz + news.length) news S (.tmp d)
    let w' := w.setRow b (cur.toList.take (off + xs.length * sz) ++ news ++ cur.toList.drop (off + xs.length * sz + news.length)).toArray
    Inv g' H w' ∧ Glob g w g' w' ∧ Grow (fun M => M ≠ .tmp s) g g' ∧ RepS g' (.tmp d) (.slice true false sz (xs ++ ys)) (.slice (some ⟨b, off, none⟩) (xs.length + ys.length) cap) := by
  intro g' w'
  have hfit2 : off + xs.length * sz + news.length ≤ cur.size := by
    have : (xs.length + ys.length) * sz ≤ cap * sz := Nat.mul_le_mul_right _ hfit
    rw [Nat.add_mul] at this
    omega
  have hne : ∀ b', b' ≠ b → g'.im b' = g.im b' ∧ g'.ow b' = g.ow b' := by
    intro b' hb'
    constructor
    · funext o
      show (if b' = b ∧ _ ∧ _ then _ else _) = _
      rw [if_neg (fun h => hb' h.1)]
    · show (if b' = b then _ else _) = _
      rw [if_neg hb']
  have himb : ∀ o, g'.im b o = if off + xs.length * sz ≤ o ∧ o < off + xs.length * sz + news.length then news[o - (off + xs.length * sz)]? else g.im b o := by
    intro o
    show (if b = b ∧ _ ∧ _ then _ else _) = _
    by_cases h : off + xs.length * sz ≤ o ∧ o < off + xs.length * sz + news.length
    · rw [if_pos ⟨rfl, h⟩, if_pos h]
    · rw [if_neg (fun hh => h hh.2), if_neg h]
  have hup : ∀ b' o v, g.im b' o = some v → g'.im b' o = some v := by
    intro b' o v hv
    by_cases e : b' = b
    · subst e
      rw [himb]
      have : ¬ (off + xs.length * sz ≤ o ∧ o < off + xs.length * sz + news.length) := fun h => by
        rw [hroom o h.1] at hv
        cases hv
      rw [if_neg this]
      exact hv
    · rw [(hne b' e).1]
      exact hv
  have hoth : ∀ {k : Nat}, k ≠ b → w'.heap[k]? = w.heap[k]? := fun hk => setRow_other w b _ _ hk
  have hnew : w'.heap[b]? = some (.cells (cur.toList.take (off + xs.length * sz) ++ news ++ cur.toList.drop (off + xs.length * sz + news.length)).toArray T (0, 0)) := setRow_heap w b cur _ T _ hb
  have hszw : w'.heap.size = w.heap.size := by simp [w', World.setRow]
  have hgrow : Grow (fun M => M ≠ .tmp s) g g' := ⟨IoLe.refl _, hup, fun b' M q hM hq => by
    have e : b' ≠ b := fun e => by
      subst e
      rw [how] at hq
      simp only [Option.some.injEq, Prod.mk.injEq] at hq
      exact hM hq.1.symm
    obtain ⟨e1, e2⟩ := hne b' e
    exact ⟨by rw [e2]; exact hq, fun o ho => by rw [e1]; exact ho⟩, rfl⟩
  refine ⟨⟨hi.len, hi.nd, fun b' o v hv => ?_, fun b' M q hq => ?_, fun id b' y hb' hy => ?_, hi.gl.mono hgrow.im, fun b s hb => by rw [hszw]; exact hi.zl b s hb, hi.nn⟩, ⟨rfl, rfl, rfl, by rw [hszw]; omega, fun b' hb' h1 h2 => ?_, hgrow.sub (fun M hM => by cases M <;> first | exact hM.elim | (intro e; cases e))⟩, hgrow, ?_⟩
  · by_cases e : b' = b
    · subst e
      rw [himb] at hv
      rw [u2y hnew, u2m hfit2]
      split at hv
      · rename_i hk
        rw [if_pos hk]
        exact hv
      · rename_i hk
        rw [if_neg hk]
        have := hi.im b' o v hv
        rw [u2y hb] at this
        exact this
    · rw [(hne b' e).1] at hv
      have := hi.im b' o v hv
      simp only [World.cell?] at this ⊢
      rw [hoth e]
      exact this
  · by_cases e : b' = b
    · subst e
      have : g'.ow b' = some (.tmp d, S) := by
        show (if b' = b' then _ else _) = _
        rw [if_pos rfl]
      rw [this] at hq
      simp only [Option.some.injEq, Prod.mk.injEq] at hq
      refine ⟨_, T, hnew, ?_⟩
      rw [← hq.2]
      simp
      omega
    · rw [(hne b' e).2] at hq
      rw [hoth e]
      exact hi.ow b' M q hq
  · have hbox := hi.box id b' y hb' hy
    cases y with
    | dead => exact Nat.lt_of_lt_of_le hbox (by rw [hszw]; exact Nat.le_refl _)
    | cells cs =>
      have e : b' ≠ b := fun e => by subst e; rw [hbox.1] at how; cases how
      obtain ⟨e1, e2⟩ := hne b' e
      exact hbox.mono (hgrow.sub (fun M hM => by cases M <;> first | exact hM.elim | (intro e; cases e))) (fun h => by rw [e2]; exact h) (fun h o => by rw [e1]; exact h o) (hoth e) (by rw [hszw]; omega)
    | iter s' pos =>
      have e : b' ≠ b := fun e => by subst e; rw [hbox.1] at how; cases how
      obtain ⟨e1, e2⟩ := hne b' e
      exact hbox.mono (hgrow.sub (fun M hM => by cases M <;> first | exact hM.elim | (intro e; cases e))) (fun h => by rw [e2]; exact h) (fun h o => by rw [e1]; exact h o) (hoth e) (by rw [hszw]; omega)
  · have e : b' ≠ b := fun e => by subst e; rw [how] at h1; cases h1
    obtain ⟨e1, e2⟩ := hne b' e
    exact ⟨by rw [e2]; exact h1, h2, hoth e⟩
  · have hl : (xs ++ ys).length = xs.length + ys.length := List.length_append
    rw [← hl]
    have hcell : ∀ (i : Nat) (y : PV) (j : Nat) (c : PV), (xs ++ ys)[i]? = some y → y.cells[j]? = some c → ∃ u, g'.im b (off + i * sz + j) = some u ∧ RepF g'.im c u := by
      intro i y j c hy hj
      by_cases h : i < xs.length
      · rw [List.getElem?_append_left h] at hy
        exact ⟨_, hup _ _ _ (him i y j c hy hj), (hr i y j c hy hj).mono hup⟩
      · rw [List.getElem?_append_right (by omega)] at hy
        obtain ⟨u, hu, hru⟩ := hyr _ y j c hy hj
        have hjl : j < sz := by rw [← hys _ y hy]; exact (List.getElem?_eq_some_iff.mp hj).1
        have hil : i - xs.length < ys.length := (List.getElem?_eq_some_iff.mp hy).1
        have hk := uco hil hjl
        have e : off + i * sz + j = off + xs.length * sz + ((i - xs.length) * sz + j) := by
          have : i * sz = xs.length * sz + (i - xs.length) * sz := by rw [← Nat.add_mul]; congr 1; omega
          omega
        refine ⟨u, ?_, hru.mono hup⟩
        rw [e, himb, if_pos ⟨by omega, by omega⟩, show off + xs.length * sz + ((i - xs.length) * sz + j) - (off + xs.length * sz) = (i - xs.length) * sz + j by omega]
        exact hu
    refine .own (fun i j => (g'.im b (off + i * sz + j)).getD undef) (by rw [hl]; exact hfit) (fun i y hy => ?_) (fun i y j c hy hj => ?_) (fun i y j c hy hj => ?_) (by show (if b = b then _ else _) = _; rw [if_pos rfl]) hs (fun k hk => ?_)
    · by_cases h : i < xs.length
      · rw [List.getElem?_append_left h] at hy
        exact hsz i y hy
      · rw [List.getElem?_append_right (by omega)] at hy
        exact hys _ y hy
    · obtain ⟨u, hu, _⟩ := hcell i y j c hy hj
      rw [hu]
      rfl
    · obtain ⟨u, hu, hru⟩ := hcell i y j c hy hj
      rw [hu]
      exact hru
    · rw [hl, Nat.add_mul] at hk
      rw [himb, if_neg (by omega)]
      exact hroom k (by omega)
end Go.Proofs.YtjcffopjohkmaaaDoor.Pi
namespace Go.Proofs.YtjcffopjohkmaaaDoor.Pi
variable {P : Program} {g : G} {L L' : Owner} {w w' : World} {H : Heap} {x : Nat} {env : Env}
theorem u1p (z : Array Value) (n : Nat) : (Builtin.zeroCells z n).size = n * z.size := size_zeroCells z n
theorem u25 {b n : Nat} (h : growB b n = true) : n * b ≤ 140737488355328 ∧ n ≤ 140737488355328 := by
  have h1 : n * max b 1 ≤ 140737488355328 := by simpa [growB] using h
  exact ⟨Nat.le_trans (Nat.mul_le_mul_left _ (Nat.le_max_left b 1)) h1, Nat.le_trans (by have := Nat.mul_le_mul_left n (Nat.le_max_right b 1); omega) h1⟩
theorem ukv {A : Operand} {z : Bool} {sz : Nat} {xs : List PV} (h : ev env A = .slice true z sz xs) : ∃ s, A = .tmp s := by
  cases A with
  | tmp s => exact ⟨s, rfl⟩
  | const v =>
    simp only [ev] at h
    unfold ofV at h
    split at h
    · split at h <;> cases h
    · rename_i a b
      cases hab : (a.size == 0 && b.size == 0) <;> rw [hab] at h <;> simp at h
    · unfold ofVC at h
      split at h <;> simp at h
  | global v => rcases ufc v with e | ⟨cs, e⟩ <;> simp [ev, e] at h
  | func v => simp [ev] at h
theorem TOk.stripTmp {tm : Array Value} {g' : G} {s : Nat} (h : TOk x g env tm) (hg : Grow (fun M => M ≠ .tmp s) g g') : TOk x g' (env.set s (strip (env.getD s .undef))) tm := by
  have h3 := h.giveUp (some (s, none))
  have e : Pi.giveUp env (some (s, none)) = env.set s (strip (env.getD s .undef)) := rfl
  rw [e] at h3
  refine ⟨h3.one, h3.len, fun t v p hv hp => ?_, h3.slot⟩
  have hr := h3.val t v p hv hp
  by_cases et : t = s
  · subst et
    have hp2 : ∃ q, p = strip q := by
      have hlt : t < env.length := by
        have := (List.getElem?_eq_some_iff.mp hp).1
        simpa using this
      rw [List.getElem?_set_self hlt] at hp
      simp only [Option.some.injEq] at hp
      exact ⟨_, hp.symm⟩
    obtain ⟨q, hq⟩ := hp2
    cases hr with
    | one hr =>
      cases hr with
      | undef => exact .one (.undef _)
      | pure hr => exact .one (.pure (hr.mono hg.ι hg.im))
      | own => cases q <;> simp [strip] at hq
    | tup h1 r => exact .tup h1 fun j p v a b => (r j p v a b).mono hg (L := .sub (.tmp t) j) (by intro e; cases e)
    | aggo h1 hc r => exact .aggo h1 hc fun j p v a b => (r j p v a b).mono hg (L := .sub (.tmp t) j) (by intro e; cases e)
  · exact hr.mono hg (by intro e; injection e with e; exact et e) (fun j => by intro e; cases e)
theorem ap_gen {t u ty e : TypeId} {a : Act} {A B : Operand} {y : PV} {out : Out PV} {own : Bool} (d : Option Tmp) (hd : ∀ t, d = some t → own = true) (ht : P.underlying t = some (.slice e)) (hu : u2w P u) (hl : listOk P e = true)
    (hsa : ∀ ys, tail (tsize P e) y = some ys → ∃ news, Src P w (tsize P e) (a.eval B) ys.length news ∧ (∀ (i : Nat) (y : PV), ys[i]? = some y → y.cells.length = tsize P e) ∧
      ∀ (i : Nat) (y : PV) (j : Nat) (c : PV), ys[i]? = some y → y.cells[j]? = some c → ∃ u, news[i * tsize P e + j]? = some u ∧ RepF g.im c u)
    (h : ap own (tsize P e) (tbytes P e) (ev env A) y H = some out) (hi : Inv g H w) (hT : TOk x g env a.tmps) :
    ValOk P x g w (giveUp env (srcO A)) a.tmps d (Builtin.append_ #[t, u] ty #[a.eval A, a.eval B]) out := by
  obtain ⟨hk, hpos, hag, i, z, hinf, hz, hzs, his, hib⟩ := u13 hl
  have rA := ev_rep hi hT A
  have hT' : TOk x g (giveUp env (srcO A)) a.tmps := hT.giveUp _
  unfold ap at h
  cases hA : ev env A with
  | slice o zn sx xs =>
    rw [hA] at h rA
    dsimp only at h
    cases htl : tail (tsize P e) y with
    | none => rw [htl] at h; simp [M.fail] at h
    | some ys =>
      rw [htl] at h
      dsimp only at h
      obtain ⟨news, hsrc, hys, hyr⟩ := hsa ys htl
      have hsrc' : Src P w i.size (a.eval B) ys.length news := by rw [his]; exact hsrc
      rcases rA.slice with ⟨rfl, rfl, rfl, hv⟩ | ⟨rfl, b, off, cap, sp, vs, hv, hsp, hc, hsz, him, hr, how⟩
      · rw [hv]
        simp only [cond_true] at h
        cases hye : ys.isEmpty with
        | true =>
          have hy0 : ys = [] := by simpa using hye
          subst hy0
          rw [hye] at h
          simp only [cond_true, M.pure, Option.some.injEq] at h
          subst h
          have hn0 : news = [] := List.eq_nil_of_length_eq_zero (by simpa using hsrc.size)
          subst hn0
          exact ⟨.slice none 0 0, w, g, u7d ht hu hinf hsrc', Glob.refl _ _, hi, hT', fun _ _ => rF (.snil _) _⟩
        | false =>
          rw [hye] at h
          simp only [cond_false] at h
          have hy0 : ys ≠ [] := by simpa using hye
          have hlen : 0 < ys.length := List.length_pos_iff.mpr hy0
          cases hgb : growB (tbytes P e) ys.length with
          | false => rw [hgb] at h; simp [M.fail] at h
          | true =>
            rw [hgb] at h
            simp only [cond_true, M.pure, Option.some.injEq] at h
            subst h
            have hb := u25 hgb
            have hrun := u8w (P := P) (w := w) (ty := ty) ht hu hinf hz hsrc' hlen (by have := hb.2; omega) (by rw [hib]; have := hb.1; omega)
            have hcap := grownCap_ge w ys.length 0 e
            have hcs : (news.toArray ++ Builtin.zeroCells z.cells (grownCap w ys.length 0 e - ys.length)).size = grownCap w ys.length 0 e * tsize P e := by
              rw [Array.size_append, u1p, hzs, List.size_toArray, hsrc.size, ← Nat.add_mul]
              congr 1
              omega
            obtain ⟨r1, r2, r3, r4, r5⟩ := u5z (xs := ys) (sz := tsize P e) (cap := grownCap w ys.length 0 e) (.tmp (d.getD 0)) hi (Pushed.drew w (.cells (news.toArray ++ Builtin.zeroCells z.cells (grownCap w ys.length 0 e - ys.length)) e)) hys hcap (by rw [hcs]; exact Nat.le_refl _) (fun i y j c hy hj => by
              obtain ⟨q, hq, hrq⟩ := hyr i y j c hy hj
              have : i * tsize P e + j < news.length := (List.getElem?_eq_some_iff.mp hq).1
              exact ⟨q, by rw [Array.getElem?_append_left (by simpa using this)]; simpa using hq, hrq⟩)
            refine ⟨_, _, _, hrun, r2, r1, hT'.mono r3 (fun _ _ => trivial), fun t' ht' => ?_⟩
            subst ht'
            rw [hd t' rfl]
            exact .one r4
      · rw [hv]
        simp only [cond_false] at h
        cases hcc : (o && (sx == tsize P e && growB (tbytes P e) (xs.length + ys.length))) with
        | false => rw [hcc] at h; simp [M.fail] at h
        | true =>
          rw [hcc] at h
          simp only [cond_true, M.pure, Option.some.injEq] at h
          subst h
          simp only [Bool.and_eq_true, beq_iff_eq] at hcc
          obtain ⟨rfl, rfl, hgb⟩ := hcc
          obtain ⟨hb1, hb2⟩ := u25 hgb
          obtain ⟨s, rfl⟩ := ukv hA
          obtain ⟨hspn, S, how2, hs, hroom⟩ := how rfl
          subst hspn
          obtain ⟨cur, T, hbk, hcur⟩ := hi.ow b _ S how2
          by_cases hfit : xs.length + ys.length ≤ cap
          · have hfit2 : off + xs.length * tsize P e + news.length ≤ cur.size := by
              have : (xs.length + ys.length) * tsize P e ≤ cap * tsize P e := Nat.mul_le_mul_right _ hfit
              rw [Nat.add_mul] at this
              have := hsrc.size
              omega
            have hrun := u7t (P := P) (w := w) (ty := ty) (t := t) (u := u) (e := e) (i := i) (v := a.eval B) (n := ys.length) (news := news) ht hu hinf hsrc' (b := b) (off := off) (sLen := xs.length) (sCap := cap) hbk hfit (by rw [his]; exact hfit2)
            rw [his] at hrun
            obtain ⟨r1, r2, r3, r4⟩ := ujt (d := d.getD 0) hi hc hsz him hr how2 hs hroom hys hsrc.size hyr hfit hbk hcur
            refine ⟨_, _, _, hrun, r2, r1, hT.stripTmp r3, fun t' ht' => ?_⟩
            subst ht'
            rw [hd t' rfl]
            exact .one r4
          · obtain ⟨olds, hos, _, hor⟩ := src_of (w := w) (q := .slice false false (tsize P e) xs) (v := .slice (some ⟨b, off, none⟩) xs.length cap) (L := .res) hpos (ys := xs) (by simp [tail]) hi (rF (.slice vs (.inl rfl) hc hsz him hr) _)
            have hneed : cap < xs.length + ys.length := by omega
            have hrun := u7s (P := P) (w := w) (ty := ty) (t := t) (u := u) (e := e) (i := i) (z := z) (v := a.eval B) (n := ys.length) (news := news) ht hu hinf hz hsrc' (b := b) (off := off) (sLen := xs.length) (sCap := cap) (olds := olds) (by rw [his]; exact hos) hneed (by omega) (growslice_fits hneed (by rw [hib]; exact hb1))
            have hcap := grownCap_ge w (xs.length + ys.length) cap e
            have hcs : (olds.toArray ++ news.toArray ++ Builtin.zeroCells z.cells (grownCap w (xs.length + ys.length) cap e - (xs.length + ys.length))).size = grownCap w (xs.length + ys.length) cap e * tsize P e := by
              rw [Array.size_append, Array.size_append, u1p, hzs, List.size_toArray, List.size_toArray, hsrc.size, hos.size, ← Nat.add_mul, ← Nat.add_mul]
              congr 1
              omega
            have hl2 : (xs ++ ys).length = xs.length + ys.length := List.length_append
            obtain ⟨r1, r2, r3, r4, r5⟩ := u5z (xs := xs ++ ys) (sz := tsize P e) (cap := grownCap w (xs.length + ys.length) cap e) (.tmp (d.getD 0)) hi (Pushed.drew w (.cells (olds.toArray ++ news.toArray ++ Builtin.zeroCells z.cells (grownCap w (xs.length + ys.length) cap e - (xs.length + ys.length))) e)) (fun i y hy => by
                by_cases h : i < xs.length
                · rw [List.getElem?_append_left h] at hy
                  exact hsz i y hy
                · rw [List.getElem?_append_right (by omega)] at hy
                  exact hys _ y hy) (by rw [hl2]; exact hcap) (by rw [hcs]; exact Nat.le_refl _) (fun i y j c hy hj => by
                by_cases h : i < xs.length
                · rw [List.getElem?_append_left h] at hy
                  obtain ⟨q, hq, hrq⟩ := hor i y j c hy hj
                  have hlt : i * tsize P e + j < olds.length := (List.getElem?_eq_some_iff.mp hq).1
                  exact ⟨q, by rw [Array.append_assoc, Array.getElem?_append_left (by simpa using hlt)]; simpa using hq, hrq⟩
                · rw [List.getElem?_append_right (by omega)] at hy
                  obtain ⟨q, hq, hrq⟩ := hyr _ y j c hy hj
                  have hlt : (i - xs.length) * tsize P e + j < news.length := (List.getElem?_eq_some_iff.mp hq).1
                  have ho := hos.size
                  have e1 : i * tsize P e + j = olds.length + ((i - xs.length) * tsize P e + j) := by
                    have : i * tsize P e = xs.length * tsize P e + (i - xs.length) * tsize P e := by rw [← Nat.add_mul]; congr 1; omega
                    omega
                  refine ⟨q, ?_, hrq⟩
                  rw [e1, Array.getElem?_append_left (by simp; omega), Array.getElem?_append_right (by simp)]
                  simpa using hq)
            refine ⟨.slice (some ⟨w.heap.size, 0, none⟩) (xs ++ ys).length (grownCap w (xs.length + ys.length) cap e), _, _, (by rw [hl2]; exact hrun), r2, r1, hT'.mono r3 (fun _ _ => trivial), fun t' ht' => ?_⟩
            subst ht'
            rw [hd t' rfl]
            exact .one r4
  | _ => (rw [hA] at h; exact nomatch h)
theorem ap_ok {t u ty e : TypeId} {a : Act} {A B : Operand} {out : Out PV} {own : Bool} (d : Option Tmp) (hd : ∀ t, d = some t → own = true) (ht : P.underlying t = some (.slice e)) (hu : u2w P u) (hl : listOk P e = true)
    (h : ap own (tsize P e) (tbytes P e) (ev env A) (ev env B) H = some out) (hi : Inv g H w) (hT : TOk x g env a.tmps) :
    ValOk P x g w (giveUp env (srcO A)) a.tmps d (Builtin.append_ #[t, u] ty #[a.eval A, a.eval B]) out := by
  obtain ⟨hk, hpos, hag, i, z, hinf, hz, hzs, his, hib⟩ := u13 hl
  exact ap_gen d hd ht hu hl (fun ys htl => src_of hpos htl hi (ev_rep hi hT B)) h hi hT
end Go.Proofs.YtjcffopjohkmaaaDoor.Pi
namespace Go.Proofs.YtjcffopjohkmaaaDoor.Pi
variable {P : Program} {g : G} {L L' : Owner} {w w' : World} {H : Heap} {x : Nat} {env : Env}
theorem u8t (off : Nat) (vs cs : Array Value) (h : off + vs.size ≤ cs.size) :
    (vs.zipIdx.foldl (fun cs (c, j) => cs.setIfInBounds (off + j) c) cs) = (cs.toList.take off ++ vs.toList ++ cs.toList.drop (off + vs.toList.length)).toArray := by
  obtain ⟨g1, g2⟩ := Great.foldl_set off vs.toList 0 cs
  have e : (vs.zipIdx.foldl (fun cs (c, j) => cs.setIfInBounds (off + j) c) cs) = ((vs.toList.zipIdx 0).foldl (fun cs (y : Value × Nat) => cs.setIfInBounds (off + y.2) y.1) cs) := by
    rw [← Array.foldl_toList, Array.toList_zipIdx]
  rw [e]
  apply Array.ext_getElem?
  intro k
  rw [g2 k, u2m (by simpa using h)]
  simp only [Nat.add_zero]
  by_cases hk : off ≤ k ∧ k < off + vs.toList.length
  · rw [if_pos hk, if_pos ⟨hk.1, hk.2, by simp at hk; omega⟩]
  · rw [if_neg hk, if_neg (by omega)]
theorem ucl {place : Nat → Option (Nat × Nat)} (hi : Inv g H w) : ∀ (ps : List (Nat × Operand)) (cs : List PV) (vs : Array Value) (cs' : List PV) {a : Act}, TOk x g env a.tmps →
    u1i (ps.map fun (i, y) => match place i with | some (a, b) => (a, b, ev env y) | none => (0, 0, .tup [])) cs = some cs' → vs.size = cs.length → (∀ (j : Nat) (c : PV), cs[j]? = some c → isCell c = true) →
    (∀ (j : Nat) (c : PV) (u : Value), cs[j]? = some c → vs[j]? = some u → Rep g.io g.im c u) →
    ∃ vs', Instr.fill place vs (ps.map fun (i, y) => (i, a.eval y)) = some vs' ∧ vs'.size = cs'.length ∧ (∀ (j : Nat) (c : PV), cs'[j]? = some c → isCell c = true) ∧ ∀ (j : Nat) (c : PV) (u : Value), cs'[j]? = some c → vs'[j]? = some u → Rep g.io g.im c u
  | [], cs, vs, cs', a, hT, h, h1, h2, h3 => by
    simp only [List.map_nil, u1i, Option.some.injEq] at h
    subst h
    exact ⟨vs, rfl, h1, h2, h3⟩
  | (i, y) :: r, cs, vs, cs', a, hT, h, h1, h2, h3 => by
    simp only [List.map_cons] at h ⊢
    cases hp : place i with
    | none =>
      rw [hp] at h
      simp [u1i, PV.cells, isCell] at h
    | some q =>
      obtain ⟨off, size⟩ := q
      rw [hp] at h
      simp only [u1i] at h
      cases hc : ((ev env y).cells.length == size && (decide (off + size ≤ cs.length) && (ev env y).cells.all isCell)) with
      | false => rw [hc] at h; simp at h
      | true =>
        rw [hc] at h
        simp only [cond_true] at h
        simp only [Bool.and_eq_true, beq_iff_eq, decide_eq_true_eq] at hc
        obtain ⟨e1, e2, e3⟩ := hc
        obtain ⟨c1, c2⟩ := u26 (ev_rep hi hT y) e3
        have hm := u22 (vs := (a.eval y).cells) c2 e3
        have hfit : off + ((ev env y).cells.map stripC).length ≤ cs.length := by simp; omega
        have hfv : off + (a.eval y).cells.toList.length ≤ vs.size := by simp; omega
        obtain ⟨vs', f1, f2, f3, f4⟩ := ucl hi r (fillAt off ((ev env y).cells.map stripC) cs) ((vs.toList.take off ++ (a.eval y).cells.toList ++ vs.toList.drop (off + (a.eval y).cells.toList.length)).toArray) cs' hT h
          (by rw [u2r hfit]; simp; omega) (fun j c hj => by
            rw [u2k hfit] at hj
            split at hj
            · simp only [List.getElem?_map, Option.map_eq_some_iff] at hj
              obtain ⟨q, hq, rfl⟩ := hj
              rw [u10]
              exact u2e e3 hq
            · exact h2 j c hj) (fun j c u hj hu => by
            rw [u2k hfit] at hj
            rw [u2m hfv] at hu
            have hl : ((ev env y).cells.map stripC).length = (a.eval y).cells.toList.length := by simp; omega
            rw [hl] at hj
            split at hj
            · rename_i hk
              rw [if_pos hk] at hu
              exact (hm _ c u hj (by simpa using hu)).1
            · rename_i hk
              rw [if_neg hk] at hu
              exact h3 j c u hj hu)
        refine ⟨vs', ?_, f2, f3, f4⟩
        unfold Instr.fill
        simp only [hp]
        rw [if_neg (by simp; omega)]
        rw [u8t off (a.eval y).cells vs (by omega)]
        exact f1
theorem uf6 {v : Value} {p : PV} (n : Nat) (hp : ofVC v = some p) : p.low n = true ∧ stripC p = p := by
  unfold ofVC at hp
  split at hp <;> simp only [Option.some.injEq, reduceCtorEq] at hp <;> subst hp <;> exact ⟨by simp [PV.low], rfl⟩
theorem uej (n : Nat) : ∀ {vs : List Value} {ps : List PV}, ofVs vs = some ps → ∀ (j : Nat) (c : PV), ps[j]? = some c → c.low n = true ∧ stripC c = c
  | [], ps, h, j, c, hc => by simp [ofVs] at h; subst h; simp at hc
  | v :: r, ps, h, j, c, hc => by
    simp only [ofVs] at h
    split at h
    · rename_i a b ha hb
      simp only [Option.some.injEq] at h
      subst h
      cases j with
      | zero => simp at hc; subst hc; exact uf6 n ha
      | succ j => exact uej n hb j c (by simpa using hc)
    · simp at h
theorem u5u {p c : PV} {j : Nat} (h : [p][j]? = some c) : j = 0 ∧ c = p := by
  have : j = 0 := by have := (List.getElem?_eq_some_iff.mp h).1; simp at this; omega
  subst this
  simp at h
  exact ⟨rfl, h.symm⟩
theorem u55 {z : Value} (hv : isVal (ofV z) = true) (n : Nat) : (ofV z).cells.all isCell = true ∧ z.cells.size = (ofV z).cells.length ∧ (∀ (j : Nat) (c : PV), (ofV z).cells[j]? = some c → c.low n = true ∧ stripC c = c) ∧
    ∀ (j : Nat) (c : PV) (v : Value), (ofV z).cells[j]? = some c → z.cells[j]? = some v → Rep g.io g.im c v := by
  have key : (ofV z).cells.all isCell = true ∧ ∀ (j : Nat) (c : PV), (ofV z).cells[j]? = some c → c.low n = true ∧ stripC c = c := by
    unfold ofV at hv ⊢
    split at hv
    · split at hv
      · rename_i l hl
        (try simp only [hl])
        refine ⟨List.all_eq_true.mpr fun c hc => ?_, uej n hl⟩
        obtain ⟨j, hj, rfl⟩ := List.getElem_of_mem hc
        exact (u40 (g := g) hl).2.1 j _ (List.getElem?_eq_getElem hj)
      · simp [isVal] at hv
    · rename_i f aa bb
      cases hab : (aa.size == 0 && bb.size == 0) <;> rw [hab] at hv <;> simp [isVal] at hv
      simp only [cond_true]
      refine ⟨rfl, fun j c hj => ?_⟩
      obtain ⟨_, rfl⟩ := u5u hj
      exact ⟨by simp [PV.low, lowL], rfl⟩
    · rename_i n1 n2
      cases hov : ofVC z with
      | none => rw [hov] at hv; simp [isVal] at hv
      | some p =>
        have hcell := u4r hov
        simp only [Option.getD_some]
        have e : p.cells = [p] := by cases p <;> first | rfl | simp [isCell] at hcell
        rw [e]
        refine ⟨by simpa using hcell, fun j c hj => ?_⟩
        obtain ⟨_, rfl⟩ := u5u hj
        exact uf6 n hov
  obtain ⟨c1, c2⟩ := u26 (u51 (g := g) z .res) key.1
  refine ⟨key.1, c1, key.2, fun j c v hj hv => ?_⟩
  have hcj := u2e key.1 hj
  have := (c2 j c v hj hv).toRep (by cases c <;> first | rfl | simp [isCell] at hcj)
  rwa [(key.2 j c hj).2] at this
theorem u3u {t : TypeId} (hz : isVal (tzero P t) = true) : ∃ i z, P.info? t = some i ∧ i.zero = some z ∧ tzero P t = ofV z := by
  unfold tzero at hz ⊢
  cases hzz : (P.info? t).bind (·.zero) with
  | none => rw [hzz] at hz; simp [isVal] at hz
  | some z =>
    obtain ⟨i, hi, hiz⟩ := Option.bind_eq_some_iff.mp hzz
    exact ⟨i, z, hi, hiz, by simp⟩
theorem u4c : ∀ (fs : List Field), (∀ f ∈ fs, known P f.type = true) → (fs.mapM (fun f => do pure (f.offset, ← sizeOf f.type) : Field → Sem (Nat × Nat))).run P w = .ok (fs.map fun f => (f.offset, tsize P f.type)) w
  | [], _ => by simp
  | f :: r, h => by
    obtain ⟨d, hd⟩ := u1j (h f List.mem_cons_self)
    obtain ⟨i, hi⟩ := u08 hd
    simp only [List.mapM_cons, Sem.run_bind, u07 (w := w) hi, Result.andThen_ok, Sem.run_pure, u4c r (fun q hq => h q (List.mem_cons_of_mem _ hq)), List.map_cons]
theorem ua1 {t : TypeId} {fs : Array Field} {ps : Array (Nat × Operand)} {a : Act} {out : Out PV} (hu : P.underlying t = some (.struct fs)) (hfk : fs.toList.all (fun f => known P f.type) = true) (hz : isVal (tzero P t) = true)
    (h : bd (tzero P t).cells (parts P env (fun i => (fs[i]?).map fun f => (f.offset, tsize P f.type)) ps) H = some out) (hT : TOk x g env a.tmps) (hinv : Inv g H w) : PureRes P g w H (Instr.build t (ps.map fun (i, y) => (i, a.eval y))) out := by
  unfold bd parts at h
  generalize hf : u1i _ _ = F at h
  cases F with
  | some cs' =>
    dsimp only at h
    obtain ⟨i, z, hi, hiz, hzz⟩ := u3u hz
    rw [hzz] at hz hf
    obtain ⟨z1, z2, z3, z4⟩ := u55 (g := g) hz 0
    obtain ⟨vs', f1, f2, f3, f4⟩ := ucl (x := x) (a := a) (hi := hinv) (place := fun i => (fs[i]?).map fun f => (f.offset, tsize P f.type)) ps.toList (ofV z).cells z.cells cs' hT hf z2 (fun j c hj => u2e z1 hj) z4
    refine u06 h (cv := .agg vs') ?_ (fun L => rT (.agg f2 f3 f4) L)
    have hm := u4c (P := P) (w := w) fs.toList (fun f hf => List.all_eq_true.mp hfk f hf)
    have hm2 : (fs.mapM (fun f => do pure (f.offset, ← sizeOf f.type) : Field → Sem (Nat × Nat))).run P w = .ok (fs.map fun f => (f.offset, tsize P f.type)) w := by
      rw [Array.mapM_eq_mapM_toList]
      rw [Sem.run_map, hm]
      simp only [Result.andThen_ok, Result.ok.injEq, and_true]
      apply Array.ext'
      simp
    have hpl : (fun (i : Nat) => (fs.map fun (f : Field) => (f.offset, tsize P f.type))[i]?) = (fun i => (fs[i]?).map fun f => (f.offset, tsize P f.type)) := by
      funext i
      simp
    simp only [Instr.build, Sem.run_bind, zeroValue, typeInfo, run_program, Result.andThen_ok, hi, Sem.run_pure, hiz, run_underlying hu, hm2]
    have hps : (ps.map fun (i, y) => (i, a.eval y)).toList = ps.toList.map fun (i, y) => (i, a.eval y) := by simp
    rw [hpl, hps, f1]
    rfl
  | none => simp [M.fail] at h
def mvTB (s d o : Nat) : Owner → Owner
  | .tmp t => if t = s then .sub (.tmp d) o else .tmp t
  | M => M
theorem TOk.moveInto {tm : Array Value} (h : TOk x g env tm) (s d o : Nat) : TOk x (g.ren (mvTB s d o)) (env.set s (strip (env.getD s .undef))) tm := by
  have hl := h.len
  refine ⟨h.one, by simp [h.len], fun t u q hu hq => ?_, fun t q ht hq => ?_⟩
  · by_cases e : s = t
    · subst e
      have h2 : s < env.length := by
        have := (List.getElem?_eq_some_iff.mp hq).1
        simpa using this
      rw [List.getElem?_set_self h2] at hq
      simp only [Option.some.injEq] at hq
      subst hq
      have : env.getD s .undef = env[s] := by simp [List.getD, List.getElem?_eq_getElem h2]
      rw [this]
      exact (h.val s u _ hu (List.getElem?_eq_getElem h2)).stripRen _ _
    · rw [List.getElem?_set_ne e] at hq
      refine (h.val t u q hu hq).ren ?_ (fun j => rfl)
      show (if t = s then _ else _) = _
      rw [if_neg (fun h => e h.symm)]
  · have h3 := h.giveUp (some (s, none))
    exact h3.slot t q ht hq
theorem uft {t : TypeId} {fs : Array Field} {ps : Array (Nat × Operand)} {i s : Nat} {f : Field} {a : Act} {out : Out PV} {d : Option Tmp} (hps : ps.toList = [(i, .tmp s)]) (hf : fs[i]? = some f) (hu : P.underlying t = some (.struct fs)) (hfk : fs.toList.all (fun f => known P f.type) = true) (hz : isVal (tzero P t) = true)
    (h : bdO (tzero P t).cells f.offset (tsize P f.type) (env.getD s .undef) H = some out) (hi : Inv g H w) (hT : TOk x g env a.tmps) : ValOk P x g w (giveUp env (some (s, none))) a.tmps d (Instr.build t (ps.map fun (i, y) => (i, a.eval y))) out := by
  have rX : RepT g (.tmp s) (env.getD s .undef) (a.eval (.tmp s)) := ev_rep hi hT (.tmp s)
  have plain : bd (tzero P t).cells (parts P env (fun i => (fs[i]?).map fun f => (f.offset, tsize P f.type)) ps) H = some out → ValOk P x g w (giveUp env (some (s, none))) a.tmps d (Instr.build t (ps.map fun (i, y) => (i, a.eval y))) out := fun h =>
    (ua1 hu hfk hz h hT hi).valOk hi (hT.giveUp _) d
  have hparts : parts P env (fun i => (fs[i]?).map fun f => (f.offset, tsize P f.type)) ps = [(f.offset, tsize P f.type, env.getD s .undef)] := by
    unfold parts
    rw [hps]
    simp only [List.map_cons, List.map_nil, hf, Option.map_some]
    rfl
  rw [hparts] at plain
  generalize hp : env.getD s .undef = p at h rX plain
  unfold bdO at h
  split at h
  · rename_i z sz xs
    obtain ⟨iz, zz, hti, hiz, hzz⟩ := u3u hz
    rw [hzz] at hz h
    obtain ⟨z1, z2, z3, z4⟩ := u55 (g := g) hz 0
    cases hc : (decide (f.offset + 1 ≤ (ofV zz).cells.length) && tsize P f.type == 1) with
    | false => rw [hc] at h; simp [M.fail] at h
    | true =>
      rw [hc] at h
      simp only [cond_true, M.pure, Option.some.injEq] at h
      subst h
      simp only [Bool.and_eq_true, decide_eq_true_eq, beq_iff_eq] at hc
      obtain ⟨hfit, hone⟩ := hc
      have hsv : RepS g (.tmp s) (.slice true z sz xs) (a.eval (.tmp s)) := by cases rX with | one h => exact h
      have hcell := u1o hsv rfl
      have hev : (a.eval (.tmp s)).cells = #[a.eval (.tmp s)] := by
        generalize a.eval (.tmp s) = v at hcell
        cases v <;> first | rfl | simp [Value.oneCell'] at hcell
      let vs' : Array Value := (zz.cells.toList.take f.offset ++ (a.eval (.tmp s)).cells.toList ++ zz.cells.toList.drop (f.offset + (a.eval (.tmp s)).cells.toList.length)).toArray
      have hfl : ([.slice true z sz xs] : List PV).length = 1 := rfl
      have hvl : (a.eval (.tmp s)).cells.toList.length = 1 := by rw [hev]; rfl
      have hrun : (Instr.build t (ps.map fun (i, y) => (i, a.eval y))).run P w = .ok (.agg vs') w := by
        have hm := u4c (P := P) (w := w) fs.toList (fun f hf => List.all_eq_true.mp hfk f hf)
        have hm2 : (fs.mapM (fun f => do pure (f.offset, ← sizeOf f.type) : Field → Sem (Nat × Nat))).run P w = .ok (fs.map fun f => (f.offset, tsize P f.type)) w := by
          rw [Array.mapM_eq_mapM_toList]
          rw [Sem.run_map, hm]
          simp only [Result.andThen_ok, Result.ok.injEq, and_true]
          apply Array.ext'
          simp
        have hpl : (fun (i : Nat) => (fs.map fun (f : Field) => (f.offset, tsize P f.type))[i]?) = (fun i => (fs[i]?).map fun f => (f.offset, tsize P f.type)) := by
          funext i
          simp
        simp only [Instr.build, Sem.run_bind, zeroValue, typeInfo, run_program, Result.andThen_ok, hti, Sem.run_pure, hiz, run_underlying hu, hm2]
        have hps2 : (ps.map fun (i, y) => (i, a.eval y)).toList = ps.toList.map fun (i, y) => (i, a.eval y) := by simp
        rw [hpl, hps2, hps]
        simp only [List.map_cons, List.map_nil]
        unfold Instr.fill
        simp only [hf, Option.map_some]
        rw [if_neg (by rw [hev, hone]; simp; omega)]
        rw [u8t f.offset (a.eval (.tmp s)).cells zz.cells (by rw [hev]; simp; omega)]
        rfl
      cases d with
      | none => exact ⟨_, w, g, hrun, Glob.refl _ _, hi, hT.giveUp _, fun t ht => nomatch ht⟩
      | some d =>
        refine ⟨_, w, g.ren (mvTB s d f.offset), hrun, u1a (fun M => rfl), hi.ren (fun _ _ => rfl), hT.moveInto s d f.offset, fun t' ht' => ?_⟩
        simp only [Option.some.injEq] at ht'
        subst ht'
        have hfit' : f.offset + ([.slice true z sz xs] : List PV).length ≤ (ofV zz).cells.length := by rw [hfl]; exact hfit
        refine .aggo ?_ (fun j c hj => ?_) (fun j c v hj hv => ?_)
        · rw [u2r hfit']
          show vs'.size = _
          simp only [vs', List.size_toArray, List.length_append, List.length_take, List.length_drop, Array.length_toList, hvl]
          have : (a.eval (.tmp s)).cells.size = 1 := by rw [hev]; rfl
          omega
        · rw [u2k hfit'] at hj
          split at hj
          · obtain ⟨_, rfl⟩ := u5u hj
            rfl
          · exact u2e z1 hj
        · rw [u2k hfit'] at hj
          rw [u2m (by rw [hvl]; omega), hvl] at hv
          rw [hfl] at hj
          split at hj
          · rename_i hk
            rw [if_pos hk, hev] at hv
            obtain ⟨hj0, rfl⟩ := u5u hj
            rw [hj0] at hv
            simp at hv
            subst hv
            have hjj : j = f.offset := by omega
            subst hjj
            refine hsv.ren ?_
            show (if s = s then _ else _) = _
            rw [if_pos rfl]
          · rename_i hk
            rw [if_neg hk] at hv
            exact .pure (z4 j c v hj hv)
  · exact plain h
theorem ujs {t e : TypeId} {n : Nat} {ps : Array (Nat × Operand)} {a : Act} {out : Out PV} (hu : P.underlying t = some (.array n e)) (hk : known P e = true) (hz : isVal (tzero P t) = true)
    (h : bd (tzero P t).cells (parts P env (fun i => some (i * tsize P e, tsize P e)) ps) H = some out) (hT : TOk x g env a.tmps) (hinv : Inv g H w) : PureRes P g w H (Instr.build t (ps.map fun (i, y) => (i, a.eval y))) out := by
  unfold bd parts at h
  generalize hf : u1i _ _ = F at h
  cases F with
  | some cs' =>
    dsimp only at h
    obtain ⟨i, z, hi, hiz, hzz⟩ := u3u hz
    obtain ⟨d, hd⟩ := u1j hk
    obtain ⟨ie, hie⟩ := u08 hd
    rw [hzz] at hz hf
    obtain ⟨z1, z2, z3, z4⟩ := u55 (g := g) hz 0
    obtain ⟨vs', f1, f2, f3, f4⟩ := ucl (x := x) (a := a) (hi := hinv) (place := fun i => some (i * tsize P e, tsize P e)) ps.toList (ofV z).cells z.cells cs' hT hf z2 (fun j c hj => u2e z1 hj) z4
    refine u06 h (cv := .agg vs') ?_ (fun L => rT (.agg f2 f3 f4) L)
    simp only [Instr.build, Sem.run_bind, zeroValue, typeInfo, run_program, Result.andThen_ok, hi, Sem.run_pure, hiz, run_underlying hu, u07 (w := w) hie]
    have hps : (ps.map fun (i, y) => (i, a.eval y)).toList = ps.toList.map fun (i, y) => (i, a.eval y) := by simp
    rw [hps, f1]
    rfl
  | none => simp [M.fail] at h
theorem u39 : ∀ {xs : List PV} {l : List UInt8}, u2h xs = some l → ∃ ns : List Int, ns.length = xs.length ∧ l = ns.map (fun n => UInt8.ofNat n.toNat) ∧ ∀ (i : Nat) (y : PV), xs[i]? = some y → ∃ n, ns[i]? = some n ∧ y = .int .u8 n
  | [], l, h => by simp [u2h] at h; subst h; exact ⟨[], rfl, rfl, fun i y hy => by simp at hy⟩
  | y :: r, l, h => by
    cases y with
    | int k n =>
      by_cases hk : k = .u8
      · subst hk
        simp only [u2h, Option.map_eq_some_iff] at h
        obtain ⟨l', h1, rfl⟩ := h
        obtain ⟨ns, e1, e2, e3⟩ := u39 h1
        refine ⟨n :: ns, by simp [e1], by simp [e2], fun i y hy => ?_⟩
        cases i with
        | zero => simp at hy; subst hy; exact ⟨n, rfl, rfl⟩
        | succ i => simpa using e3 i y (by simpa using hy)
      · exfalso
        cases k <;> first | exact hk rfl | simp [u2h] at h
    | _ => simp [u2h] at h
theorem u4t {s t e : TypeId} {p : PV} {u : Value} {out : Out PV} {own : Bool} (hs : P.underlying s = some (.slice e)) (he : P.underlying e = some (.int .u8)) (ht : P.underlying t = some .string) (h : cv .bytesToStr own p H = some out)
    (hi : Inv g H w) (hp : RepT g L p u) : PureRes P g w H (convert s t u) out := by
  cases p with
  | slice o z sz xs =>
    unfold cv at h
    dsimp only at h
    cases hb : u2h xs with
    | none => rw [hb] at h; simp [M.fail] at h
    | some l =>
      rw [hb] at h
      obtain ⟨ns, n1, n2, n3⟩ := u39 hb
      refine u06 h (cv := .string ⟨l.toArray⟩) ?_ (fun L => rStr _ L)
      rcases hp.slice with ⟨rfl, rfl, rfl, rfl⟩ | ⟨rfl, b, off, cap, sp, vs, rfl, hsp, h1, h2, h3, h4, _⟩
      · have hl0 : l = [] := by
          rw [n2]
          simp at n1
          simp [n1]
        subst hl0
        simp [convert, run_underlying hs, run_underlying ht, run_underlying he, Conv.bytesToString]
        rfl
      · rcases hsp with rfl | rfl
        rotate_left
        · have hx0 : xs = [] := List.eq_nil_of_length_eq_zero (by omega)
          subst hx0
          have hl0 : l = [] := by
            rw [n2]
            simp at n1
            simp [n1]
          subst hl0
          simp [convert, run_underlying hs, run_underlying ht, run_underlying he, Conv.bytesToString, loadCells, loadCellsFrom]
          rfl
        have hone : ∀ (i : Nat) (y : PV), xs[i]? = some y → sz = 1 := by
          intro i y hy
          obtain ⟨n, _, rfl⟩ := n3 i y hy
          have := h2 i _ hy
          simpa [PV.cells] using this.symm
        have hcell : ∀ j, j < ns.length → w.cell? ((⟨b, off, none⟩ : Addr).add j) = some (.int .u8 (ns.getD j 0)) := by
          intro j hj
          have hjx : j < xs.length := by omega
          have hy : xs[j]? = some xs[j] := List.getElem?_eq_getElem hjx
          obtain ⟨n, hn, hyn⟩ := n3 j _ hy
          have hs1 := hone j _ hy
          subst hs1
          rw [hyn] at hy
          have e1 := h3 j _ 0 (.int .u8 n) hy rfl
          have e2 := h4 j _ 0 (.int .u8 n) hy rfl
          have e3 : vs j 0 = .int .u8 n := by
            generalize vs j 0 = v at e2
            cases e2
            rfl
          rw [e3] at e1
          have := hi.im _ _ _ e1
          have hadd : (⟨b, off, none⟩ : Addr).add j = ⟨b, off + j, none⟩ := by unfold Addr.add; split <;> simp_all
          rw [hadd]
          simp only [Nat.mul_one, Nat.add_zero] at this
          rw [this]
          simp [hn]
        have := run_convert_bytes_arg (P := P) (w := w) s e hs he b off xs.length cap ns n1 (fun i hi2 => by
          have hadd : (⟨b, off, none⟩ : Addr).add i = ⟨b, off + i, none⟩ := by unfold Addr.add; split <;> simp_all
          rw [← hadd]
          exact hcell i (by omega)) t ht
        rw [this]
        simp [strOfNums, n2]
  | _ => (unfold cv at h; exact nomatch h)
end Go.Proofs.YtjcffopjohkmaaaDoor.Pi
namespace Go.Proofs.YtjcffopjohkmaaaDoor.Pi
variable {P : Program} {g : G} {L L' : Owner} {w w' : World} {H : Heap} {x : Nat} {env : Env}
theorem mk_ok {t e : TypeId} {p q : PV} {u v : Value} {out : Out PV} {own : Bool} {tm : Array Value} (d : Option Tmp) (hd : ∀ t, d = some t → own = true) (hu : P.underlying t = some (.slice e)) (hl : listOk P e = true)
    (h : mk own (tsize P e) (tbytes P e) p q H = some out) (hi : Inv g H w) (hT : TOk x g env tm) (hp : RepT g L p u) (hq : RepT g L' q v) : ValOk P x g w env tm d (Instr.makeSlice t u v) out := by
  obtain ⟨hk, hpos, hag, i, z, hinf, hz, hzs, his, hib⟩ := u13 hl
  unfold mk at h
  split at h
  · rename_i k n k' m
    obtain rfl := hp.int
    obtain rfl := hq.int
    cases hc : (decide (n = 0) && (decide (0 ≤ m) && growB (tbytes P e) m.toNat)) with
    | false => rw [hc] at h; simp [M.fail] at h
    | true =>
      rw [hc] at h
      simp only [cond_true, M.pure, Option.some.injEq] at h
      subst h
      simp only [Bool.and_eq_true, decide_eq_true_eq] at hc
      obtain ⟨rfl, hm, hg⟩ := hc
      obtain ⟨g1, g2⟩ := u25 hg
      have hbm : (i.bytes : Int) * m ≤ 281474976710656 := by
        rw [hib]
        have e1 : ((m.toNat * tbytes P e : Nat) : Int) ≤ 281474976710656 := by omega
        rw [Int.natCast_mul, Int.toNat_of_nonneg hm, Int.mul_comm] at e1
        exact e1
      have hrun := run_make (P := P) w t e i z hu hinf hz k k' 0 m (Int.le_refl _) hm hbm (by omega)
      simp only [Int.toNat_zero] at hrun
      obtain ⟨r1, r2, r3, r4, r5⟩ := u5z (xs := []) (sz := tsize P e) (cap := m.toNat) (.tmp (d.getD 0)) hi (Pushed.alloc w (.cells (madeCells z.cells (m.toNat * i.size)) e)) (fun i y hy => by simp at hy) (by simp) (by rw [size_madeCells, his]; exact Nat.le_refl _) (fun i y j c hy => by simp at hy)
      refine ⟨_, _, _, hrun, r2, r1, hT.mono r3 (fun _ _ => trivial), fun t' ht' => ?_⟩
      subst ht'
      rw [hd t' rfl]
      exact .one r4
  · simp [M.fail] at h
theorem ua8 {s t : TypeId} {k : IntKind} {p : PV} {u : Value} {out : Out PV} {own : Bool} (hs : P.underlying s = some (.int k)) (ht : P.underlying t = some .string) (h : cv .runeToStr own p H = some out) (hp : RepT g L p u) : PureRes P g w H (convert s t u) out := by
  cases p with
  | int k n =>
    unfold cv at h
    obtain rfl := hp.int
    exact u06 h (by simp [convert, run_underlying hs, run_underlying ht, Conv.intToString]) (fun L => rStr _ L)
  | _ => (unfold cv at h; exact nomatch h)
theorem uki {s t : TypeId} {k k' : IntKind} {p : PV} {u : Value} {out : Out PV} {own : Bool} (hs : P.underlying s = some (.int k)) (ht : P.underlying t = some (.int k')) (h : cv (.int k') own p H = some out) (hp : RepT g L p u) : PureRes P g w H (convert s t u) out := by
  cases p with
  | int k n =>
    unfold cv at h
    obtain rfl := hp.int
    exact u06 h (by simp [convert, run_underlying hs, run_underlying ht, Conv.intToInt]) (fun L => rInt _ _ L)
  | _ => (unfold cv at h; exact nomatch h)
theorem uhc {s t : TypeId} {p : PV} {u : Value} {out : Out PV} {own : Bool} (hs : P.underlying s = some .string) (ht : P.underlying t = some .string) (h : cv .same own p H = some out) (hp : RepT g L p u) : PureRes P g w H (convert s t u) out := by
  cases p with
  | str n =>
    unfold cv at h
    obtain rfl := hp.str
    exact u06 h (by simp [convert, run_underlying hs, run_underlying ht]) (fun L => rStr _ L)
  | _ => (unfold cv at h; exact nomatch h)
theorem ul4 {cells : Array Value} {T : TypeId} {fr : Nat × Nat} {xs : List PV} (hi : Inv g H w) (hp : Pushed w w' (.cells cells T fr)) (hsz : ∀ (i : Nat) (y : PV), xs[i]? = some y → y.cells.length = 1)
    (hr : ∀ (i : Nat) (y : PV) (c : PV), xs[i]? = some y → y.cells[0]? = some c → ∃ v, cells[i]? = some v ∧ RepF g.im c v) {cap : Nat} (hc : xs.length ≤ cap) :
    let g' : G := { g with im := fun b o => if b = w.heap.size then cells[o]? else g.im b o }
    Inv g' H w' ∧ Glob g w g' w' ∧ Grow (fun _ => True) g g' ∧ RepF g'.im (.slice false false 1 xs) (.slice (some ⟨w.heap.size, 0, none⟩) xs.length cap) := by
  intro g'
  have him : ∀ b o v, g.im b o = some v → g'.im b o = some v := by
    intro b o v hv
    have := hi.lt_im hv
    show (if b = w.heap.size then _ else _) = _
    rw [if_neg (by omega)]
    exact hv
  have hne : ∀ b, b ≠ w.heap.size → g'.im b = g.im b := by
    intro b hb
    funext o
    show (if b = w.heap.size then _ else _) = _
    rw [if_neg hb]
  have hgrow : Grow (fun _ => True) g g' := ⟨IoLe.refl _, him, fun b M s _ hb => by
    have := hi.lt_ow hb
    exact ⟨hb, fun o ho => by rw [hne b (by omega)]; exact ho⟩, rfl⟩
  refine ⟨⟨hi.len, hi.nd, fun b o v hv => ?_, fun b M s hb => ?_, fun id b y hb hy => ?_, hi.gl.mono hgrow.im, fun b s hb => by have := hi.zl b s hb; rw [hp.size]; omega, hi.nn⟩, ⟨hp.os, hp.tape, hp.output, by rw [hp.size]; omega, fun b hb h1 h2 => ⟨h1, h2, hp.old hb⟩, hgrow.sub (fun _ _ => trivial)⟩, hgrow, .slice (fun i j => cells.getD i undef) (.inl rfl) hc hsz (fun i y j c hy hj => ?_) (fun i y j c hy hj => ?_)⟩
  · by_cases e : b = w.heap.size
    · subst e
      have hv2 : cells[o]? = some v := by
        have : (if w.heap.size = w.heap.size then cells[o]? else g.im w.heap.size o) = some v := hv
        rwa [if_pos rfl] at this
      simpa [World.cell?, hp.new] using hv2
    · rw [hne b e] at hv
      rw [hp.cell (hi.lt_im hv)]
      exact hi.im b o v hv
  · have hb : g.ow b = some (M, s) := hb
    rw [hp.old (hi.lt_ow hb)]
    exact hi.ow b M s hb
  · have hlt := hi.lt_ι hb
    exact (hi.box id b y hb hy).mono (hgrow.sub (fun _ _ => trivial)) (fun h => h) (fun h o => by rw [hne b (by omega)]; exact h o) (hp.old hlt) (by rw [hp.size]; omega)
  · have hj0 : j = 0 := by
      have h1 := hsz i y hy
      have h2 := (List.getElem?_eq_some_iff.mp hj).1
      omega
    subst hj0
    obtain ⟨v, hv, _⟩ := hr i y c hy hj
    show (if w.heap.size = w.heap.size then cells[0 + i * 1 + 0]? else _) = _
    rw [if_pos rfl]
    simp [hv]
  · have hj0 : j = 0 := by
      have h1 := hsz i y hy
      have h2 := (List.getElem?_eq_some_iff.mp hj).1
      omega
    subst hj0
    obtain ⟨v, hv, hrv⟩ := hr i y c hy hj
    have : cells.getD i undef = v := by simp [Array.getD_eq_getD_getElem?, hv]
    rw [this]
    exact hrv.mono him
theorem u91 {s t e : TypeId} {p : PV} {u : Value} {out : Out PV} {own : Bool} {tm : Array Value} (d : Option Tmp) (hs : P.underlying s = some .string) (ht : P.underlying t = some (.slice e)) (he : P.underlying e = some (.int .u8))
    (h : cv (.strToBytes e) own p H = some out) (hi : Inv g H w) (hT : TOk x g env tm) (hp : RepT g L p u) : ValOk P x g w env tm d (convert s t u) out := by
  cases p with
  | str b =>
    unfold cv at h
    obtain rfl := hp.str
    simp only [M.pure, Option.some.injEq] at h
    subst h
    generalize hcap : (Question.appendCap b.size 0 e).cut (w.tape w.drawn (.appendCap b.size 0 e)) = cap
    have hge : b.size ≤ cap := by rw [← hcap]; simp [Question.cut]
    generalize hce : (b.data.map fun (b : UInt8) => Value.int .u8 b.toNat) ++ Array.replicate (cap - b.size) (Value.int .u8 0) = cells
    have hnew : (w.drew.alloc (.cells cells e)).heap[w.heap.size]? = some (.cells cells e (0, 0)) := (Pushed.drew w _).new
    have hshape : (w.drew.alloc (.cells cells e)).shape? w.heap.size = some (e, cells.size) := by
      unfold World.shape?
      rw [hnew]
    have hmark : (markStringish ⟨w.heap.size, 0, none⟩).run P (w.drew.alloc (.cells cells e)) = .ok () ((w.drew.alloc (.cells cells e)).freeze { block := w.heap.size, off := cells.size } 1) := by
      simp only [markStringish, Sem.run_bind, run_shape, Result.andThen_ok, hshape]
      rfl
    have hp' : ∃ fr, Pushed w ((w.drew.alloc (.cells cells e)).freeze { block := w.heap.size, off := cells.size } 1) (.cells cells e fr) := by
      refine ⟨(cells.size, cells.size + 1), ⟨?_, rfl, rfl, rfl⟩⟩
      apply Array.ext_getElem?
      intro k
      simp only [World.freeze, Nat.succ_ne_zero, if_false, Array.getElem?_modify, Array.getElem?_push]
      by_cases hk : w.heap.size = k
      · subst hk
        rw [if_pos rfl, hnew]
        simp
      · rw [if_neg hk]
        rw [if_neg (fun h => hk h.symm)]
        show (w.drew.alloc _).heap[k]? = _
        have : (w.drew.alloc (.cells cells e)).heap = w.heap.push (.cells cells e) := rfl
        rw [this, Array.getElem?_push, if_neg (fun h => hk h.symm)]
    obtain ⟨fr, hp'⟩ := hp'
    have hrun : (convert s t (.string b)).run P w = .ok (.slice (some ⟨w.heap.size, 0, none⟩) b.size cap) ((w.drew.alloc (.cells cells e)).freeze { block := w.heap.size, off := cells.size } 1) := by
      have e1 : (newRow e cells).run P w.drew = .ok ⟨w.heap.size, 0, none⟩ (w.drew.alloc (.cells cells e)) := by
        simp [newRow]
        rfl
      have e2 : (choose (.appendCap b.size 0 e)).run P w = .ok cap w.drew := by
        rw [run_choose]
        simp only [Question.forced, Bool.false_eq_true, if_false, hcap]
        rfl
      simp only [convert, Sem.run_bind, run_underlying hs, run_underlying ht, run_underlying he, Result.andThen_ok, Conv.stringToBytes, e2, hce, e1, hmark, Sem.run_pure]
    have hbl : b.size = (b.data.toList.map fun (b : UInt8) => PV.int .u8 b.toNat).length := by
      simp
    obtain ⟨r1, r2, r3, r4⟩ := ul4 (xs := b.data.toList.map fun (b : UInt8) => PV.int .u8 b.toNat) (cap := cap) hi hp' (fun i y hy => by
        simp only [List.getElem?_map, Option.map_eq_some_iff] at hy
        obtain ⟨q, _, rfl⟩ := hy
        rfl) (fun i y c hy hc => by
        simp only [List.getElem?_map, Option.map_eq_some_iff] at hy
        obtain ⟨q, hq, rfl⟩ := hy
        simp [PV.cells] at hc
        subst hc
        refine ⟨.int .u8 q.toNat, ?_, .int _ _⟩
        have hlt : i < b.data.size := by
          have := (List.getElem?_eq_some_iff.mp hq).1
          simpa using this
        rw [← hce, Array.getElem?_append_left (by simpa using hlt)]
        simp only [Array.getElem?_map]
        rw [Array.getElem?_toList] at hq
        rw [hq]
        rfl) (by rw [← hbl]; exact hge)
    refine ⟨_, _, _, hrun, r2, r1, hT.mono r3 (fun _ _ => trivial), fun t' _ => ?_⟩
    rw [hbl]
    exact rF r4 _
  | _ => (unfold cv at h; exact nomatch h)
theorem nx_ok {ty : TypeId} {p : PV} {u : Value} {out : Out PV} {tm : Array Value} (d : Option Tmp) (h : nx p H = some out) (hi : Inv g H w) (hT : TOk x g env tm) (hp : RepT g L p u) : ValOk P x g w env tm d (Instr.next u true ty) out := by
  cases p with
  | ptr id o =>
    obtain ⟨b, hb, rfl⟩ := hp.ptr
    cases o with
    | succ o => exact nomatch h
    | zero =>
      have hnx : nx (.ptr id 0) H = match H[id]? with
        | some (.iter s pos) => bif decide (pos < s.size) then some (.ok (.tup [.bool true, .int .i64 pos, .int .i32 (Utf8.decode s pos).1]) (H.set id (.iter s (pos + (Utf8.decode s pos).2)))) else some (.ok (.tup [.bool false]) H)
        | _ => none := rfl
      have h : nx (.ptr id 0) H = some out := h
      rw [hnx] at h
      clear hnx
      cases hy : H[id]? with
      | none => rw [hy] at h; simp at h
      | some y =>
        rw [hy] at h
        cases y with
        | iter s pos =>
          dsimp only at h
          obtain ⟨b', hb', h1, h2, h3⟩ := hi.boxAt hy
          obtain rfl : b = b' := by rw [hb] at hb'; exact Option.some.inj hb'
          have hid : id < H.length := (List.getElem?_eq_some_iff.mp hy).1
          have hlt : b < w.heap.size := (Array.getElem?_eq_some_iff.mp h3).1
          have hget : (getObj b).run P w = .ok (.stringIter s pos) w := by
            simp only [getObj, Sem.run, h3]
          by_cases hpos : pos < s.size
          · rw [decide_eq_true hpos] at h
            simp only [cond_true, Option.some.injEq] at h
            subst h
            generalize hdec : Utf8.decode s pos = dd
            obtain ⟨c, width⟩ := dd
            have hset : (setObj b (.stringIter s (pos + width))).run P w = .ok () { w with heap := w.heap.setIfInBounds b (.stringIter s (pos + width)) } := by
              simp only [setObj, Sem.run, h3]
            have hoth : ∀ {k : Nat}, k ≠ b → ({ w with heap := w.heap.setIfInBounds b (.stringIter s (pos + width)) } : World).heap[k]? = w.heap[k]? := by
              intro k hk
              exact Array.getElem?_setIfInBounds_ne (fun h => hk h.symm)
            have hsz : ({ w with heap := w.heap.setIfInBounds b (.stringIter s (pos + width)) } : World).heap.size = w.heap.size := by simp
            refine ⟨.tuple #[.bool true, goInt pos, .int .i32 c], { w with heap := w.heap.setIfInBounds b (.stringIter s (pos + width)) }, g, ?_, ⟨rfl, rfl, rfl, by rw [hsz]; exact Nat.le_refl _, fun b' hb' e1 e2 => ⟨e1, e2, hoth (fun e => e2 (e ▸ List.mem_of_getElem? hb))⟩, Grow.refl _ _⟩, ?_, hT, fun t' _ => ?_⟩
            · simp [Instr.next, hget, hpos, hdec, hset]
            · refine ⟨by simp [hi.len], fun i j b hi' hj' li lj => hi.nd i j b hi' hj' (u3s hy (by simp) (by simp) li) (u3s hy (by simp) (by simp) lj), fun b' k v hv => ?_, fun b' M s' hq => ?_, fun id' b' y' hb3 hy' => ?_, hi.gl, fun b s hb => by rw [hsz]; exact hi.zl b s hb, fun n hn => by have := hi.nn n hn; simpa using this⟩
              · have hne : b' ≠ b := fun e => by subst e; rw [h2 k] at hv; cases hv
                have := hi.im b' k v hv
                simp only [World.cell?] at this ⊢
                rw [hoth hne]
                exact this
              · have hne : b' ≠ b := fun e => by subst e; rw [h1] at hq; cases hq
                rw [hoth hne]
                exact hi.ow b' M s' hq
              · by_cases e : id = id'
                · subst e
                  rw [List.getElem?_set_self hid] at hy'
                  simp only [Option.some.injEq] at hy'
                  subst hy'
                  obtain rfl : b = b' := by rw [hb] at hb3; exact Option.some.inj hb3
                  refine ⟨h1, h2, ?_⟩
                  show (w.heap.setIfInBounds b _)[b]? = _
                  rw [Array.getElem?_setIfInBounds_self_of_lt hlt]
                · rw [List.getElem?_set_ne e] at hy'
                  by_cases hd : y' = .dead
                  · subst hd
                    have : b' < w.heap.size := hi.box id' b' _ hb3 hy'
                    show b' < _
                    rw [hsz]
                    exact this
                  have hne : b' ≠ b := fun e' => by
                    subst e'
                    exact e (hi.nd id id' b' hb hb3 (u1c hy (by simp)) (u1c hy' hd))
                  exact (hi.box id' b' y' hb3 hy').mono (Grow.refl _ _) (fun h => h) (fun h => h) (hoth hne) (by rw [hsz]; omega)
            · refine .tup rfl fun j q v hq hv => ?_
              match j with
              | 0 => simp at hq hv; subst hq; subst hv; exact .pure (.flat (.bool _))
              | 1 => simp at hq hv; subst hq; subst hv; exact .pure (.flat (.int _ _))
              | 2 => simp at hq hv; subst hq; subst hv; exact .pure (.flat (.int _ _))
              | j + 3 => simp at hq
          · rw [decide_eq_false hpos] at h
            simp only [cond_false, Option.some.injEq] at h
            subst h
            refine ⟨.tuple #[.bool false], w, g, ?_, Glob.refl _ _, hi, hT, fun t' _ => ?_⟩
            · simp [Instr.next, hget, hpos]
            · refine .tup rfl fun j q v hq hv => ?_
              match j with
              | 0 => simp at hq hv; subst hq; subst hv; exact .pure (.flat (.bool _))
              | j + 1 => simp at hq
        | cells cs => simp at h
        | dead => simp at h
  | _ => (unfold nx at h; exact nomatch h)
end Go.Proofs.YtjcffopjohkmaaaDoor.Pi
namespace Go.Proofs.YtjcffopjohkmaaaDoor.Pi
variable {P : Program} {g : G} {L L' : Owner} {w w' : World} {H : Heap} {x : Nat} {env : Env}
theorem ul2 (p : PV) : (∃ id, p = .ptr id 0) ∨ ∀ own n hi H, slA own n p hi H = none := by
  cases p with
  | ptr id o =>
    cases o with
    | zero => exact .inl ⟨id, rfl⟩
    | succ k => exact .inr fun _ _ _ _ => rfl
  | _ => exact .inr fun _ _ _ _ => rfl
theorem slA_ok {t e : TypeId} {n : Nat} {hi' : Option PV} {chi : Option Value} {p : PV} {u : Value} {tm : Array Value} {own : Bool} {out : Out PV} (d : Option Tmp) (hd : ∀ t, d = some t → own = true) (hu : P.underlying t = some (.array n e)) (hsz : tsize P e = 1) (hk : known P e = true)
    (h : slA own n p hi' H = some out) (hi : Inv g H w) (ht : TOk x g env tm) (hp : RepT g L p u) (rhi : ∀ q, hi' = some q → ∃ v L, chi = some v ∧ RepT g L q v) (nhi : hi' = none → chi = none) :
    ValOk P x g w env tm d (Instr.sliceAt t u none chi none) out := by
  obtain ⟨de, hde⟩ := u1j hk
  obtain ⟨inf, hinf⟩ := u08 hde
  rcases ul2 p with ⟨id, rfl⟩ | hno
  · skip
    obtain ⟨b, hb, rfl⟩ := hp.ptr
    have h : slH own n id H H[id]? (bnd n hi') = some out := h
    cases hy : H[id]? with
    | none => rw [hy] at h; cases h
    | some y =>
      cases y with
      | cells cs =>
        cases hbn : bnd n hi' with
        | none => rw [hy, hbn] at h; cases h
        | some hh =>
          rw [hy, hbn] at h
          obtain ⟨b', hb', hbox⟩ := hi.boxAt hy
          obtain rfl : b = b' := by rw [hb] at hb'; exact Option.some.inj hb'
          obtain ⟨h1, h2, vs, T, h3, h4, h5⟩ := hbox
          have h : (bif decide (hh ≤ n) && (cs.length == n && (cs.map stripC).all (u0a none)) then some (Out.ok (.slice own false 1 ((cs.map stripC).take hh)) (H.set id .dead)) else none) = some out := h
          cases hc : (decide (hh ≤ n) && (cs.length == n && (cs.map stripC).all (u0a none))) with
          | false => rw [hc] at h; simp at h
          | true =>
            rw [hc] at h
            simp only [cond_true, Option.some.injEq] at h
            subst h
            simp only [Bool.and_eq_true, beq_iff_eq, decide_eq_true_eq] at hc
            obtain ⟨hhn, hcn, hall⟩ := hc
            have hblt : b < w.heap.size := (Array.getElem?_eq_some_iff.mp h3).1
            have hbo := u2l (P := P) (w := w) (g := g) (isS := false) (len := n) (cap := n) (lo := none) (clo := none) hbn rfl (fun q hq => by cases hq) (fun _ => rfl) rhi nhi (Nat.zero_le _) hhn
            have hrun : (Instr.sliceAt t (.pointer (some ⟨b, 0, none⟩)) none chi none).run P w = .ok (.slice (some ⟨b, 0, none⟩) hh n) w := by
              have hse : (sizeOf e).run P w = .ok (tsize P e) w := u07 (w := w) hinf
              simp [Instr.sliceAt, run_underlying hu, Instr.sureAddr, hbo, hse]
              intro _
              simp [Addr.add]
            let g' : G := ⟨g.io, fun b' o => if b' = b then (if o < hh then vs[o]? else none) else g.im b' o, fun b' => if b' = b then some (.tmp (d.getD 0), vs.size) else g.ow b', g.N⟩
            have hgr : Grow (fun _ => True) g g' := by
              refine ⟨IoLe.refl _, fun b' o v hv => ?_, fun b' L s _ hbo' => ?_, rfl⟩
              · show (if b' = b then _ else g.im b' o) = _
                rw [if_neg (fun e => by subst e; rw [h2] at hv; cases hv)]
                exact hv
              · have hne : b' ≠ b := fun e => by subst e; rw [h1] at hbo'; cases hbo'
                refine ⟨?_, fun o ho => ?_⟩
                · show (if b' = b then _ else g.ow b') = _
                  rw [if_neg hne]; exact hbo'
                · show (if b' = b then _ else g.im b' o) = _
                  rw [if_neg hne]; exact ho
            have hcell : ∀ (o : Nat) (c : PV) (v : Value), cs[o]? = some c → vs[o]? = some v → RepF g'.im (stripC c) v ∧ (stripC c).cells = [stripC c] := by
              intro o c v hc' hv
              obtain ⟨r1, r2, _⟩ := h5 o c v hc' hv
              have hf : u0a none (stripC c) = true := List.all_eq_true.mp hall _ (List.mem_map.mpr ⟨c, List.mem_of_getElem? hc', rfl⟩)
              have hl : (stripC c).cells = [stripC c] := by
                have r3 : isCell (stripC c) = true := by rwa [u10]
                generalize stripC c = q at r3
                cases q <;> first | rfl | simp [isCell] at r3
              have hone := u1o r1 r2
              have hv1 : v.cells = #[v] := by cases v <;> first | rfl | simp [Value.oneCell'] at hone
              exact ⟨((u4l hf (.one r1)).2.2.2 0 (stripC c) v (by rw [hl]; rfl) (by rw [hv1]; rfl)).mono hgr.im, hl⟩
            refine ⟨_, w, g', hrun, ⟨rfl, rfl, rfl, Nat.le_refl _, fun b' hb1 hb2 hb3 => ?_, hgr.sub (fun _ _ => True.intro)⟩, ?_, ht.mono hgr (fun _ _ => True.intro), fun t' ht' => ?_⟩
            · have hne : b' ≠ b := fun e => by subst e; exact hb3 (List.mem_of_getElem? hb)
              refine ⟨?_, hb3, rfl⟩
              show (if b' = b then _ else g.ow b') = _
              rw [if_neg hne]; exact hb2
            · refine ⟨by have := hi.len; simpa [g', G.ι] using this, fun i j b hi' hj' li lj => hi.nd i j b hi' hj' (u1x li) (u1x lj), fun b' o v hv => ?_, fun b' L s hbs => ?_, fun id' b' y hbi hy' => ?_, hi.gl.mono hgr.im, hi.zl, fun n hn => by have := hi.nn n hn; simpa using this⟩
              · by_cases e : b' = b
                · subst e
                  have hv : (if b' = b' then (if o < hh then vs[o]? else none) else g.im b' o) = some v := hv
                  rw [if_pos rfl] at hv
                  split at hv
                  · rw [u2y h3]; exact hv
                  · cases hv
                · have hv : (if b' = b then (if o < hh then vs[o]? else none) else g.im b' o) = some v := hv
                  rw [if_neg e] at hv
                  exact hi.im b' o v hv
              · by_cases e : b' = b
                · subst e
                  have hbs : (if b' = b' then some (Owner.tmp (d.getD 0), vs.size) else g.ow b') = some (L, s) := hbs
                  rw [if_pos rfl] at hbs
                  cases hbs
                  exact ⟨vs, T, h3, rfl⟩
                · have hbs : (if b' = b then some (Owner.tmp (d.getD 0), vs.size) else g.ow b') = some (L, s) := hbs
                  rw [if_neg e] at hbs
                  exact hi.ow b' L s hbs
              · by_cases e : id' = id
                · subst e
                  have hlt : id' < H.length := by
                    have := (List.getElem?_eq_some_iff.mp hy').1
                    simpa using this
                  rw [List.getElem?_set_self hlt] at hy'
                  cases hy'
                  have hbq : g.ι[id']? = some b' := by assumption
                  have : b' = b := by rw [hb] at hbq; exact (Option.some.inj hbq).symm
                  rw [this]
                  exact hblt
                · rw [List.getElem?_set_ne (fun h => e h.symm)] at hy'
                  by_cases hd' : y = .dead
                  · subst hd'
                    have : b' < w.heap.size := hi.box id' b' _ hbi hy'
                    exact this
                  have hne : b' ≠ b := fun h => by subst h; exact e (hi.nd _ _ _ hbi hb (u1c hy' hd') (u1c hy (by simp)))
                  refine (hi.box id' b' y hbi hy').mono (hgr.sub (fun _ _ => True.intro)) (fun ho => ?_) (fun ho o => ?_) rfl (Nat.le_refl _)
                  · show (if b' = b then _ else g.ow b') = _
                    rw [if_neg hne]; exact ho
                  · show (if b' = b then _ else g.im b' o) = _
                    rw [if_neg hne]; exact ho o
            · have ho := hd t' ht'
              subst ho
              subst ht'
              have hlen : ((cs.map stripC).take hh).length = hh := by simp; omega
              have get : ∀ (i : Nat) (y : PV), ((cs.map stripC).take hh)[i]? = some y → i < hh ∧ ∃ c v, cs[i]? = some c ∧ y = stripC c ∧ vs[i]? = some v := by
                intro i y hy'
                have hlt : i < hh := by
                  have := (List.getElem?_eq_some_iff.mp hy').1
                  omega
                rw [List.getElem?_take, if_pos hlt, List.getElem?_map] at hy'
                obtain ⟨c, hc', rfl⟩ := Option.map_eq_some_iff.mp hy'
                exact ⟨hlt, c, vs[i], hc', rfl, Array.getElem?_eq_getElem (by omega)⟩
              have := RepS.own (g := g') (L := .tmp t') (b := b) (o := 0) (cap := n) (sz := 1) (xs := (cs.map stripC).take hh) (s := vs.size) (fun i _ => vs.getD i undef) (by omega) (fun i y hy' => by
                obtain ⟨_, c, v, hc', rfl, hv⟩ := get i y hy'
                rw [(hcell i c v hc' hv).2]
                rfl) (fun i y j c0 hy' hj => by
                obtain ⟨hlt, c, v, hc', rfl, hv⟩ := get i y hy'
                rw [(hcell i c v hc' hv).2] at hj
                have hj0 : j = 0 := by
                  have := (List.getElem?_eq_some_iff.mp hj).1
                  simp at this
                  omega
                subst hj0
                show (if b = b then (if 0 + i * 1 + 0 < hh then vs[0 + i * 1 + 0]? else none) else _) = _
                rw [if_pos rfl, if_pos (by omega)]
                simp [Array.getD_eq_getD_getElem?, hv]) (fun i y j c0 hy' hj => by
                obtain ⟨hlt, c, v, hc', rfl, hv⟩ := get i y hy'
                have hr := hcell i c v hc' hv
                rw [hr.2] at hj
                have hj0 : j = 0 := by
                  have := (List.getElem?_eq_some_iff.mp hj).1
                  simp at this
                  omega
                subst hj0
                cases hj
                simp only [Array.getD_eq_getD_getElem?, hv, Option.getD_some]
                exact hr.1) (by show (if b = b then _ else _) = _; rw [if_pos rfl]; rfl) (by omega) (fun off hoff => by
                show (if b = b then (if off < hh then vs[off]? else none) else _) = _
                rw [if_pos rfl, if_neg (by omega)])
              rw [hlen] at this
              exact .one this
      | iter s q => rw [hy] at h; cases h
      | dead => rw [hy] at h; cases h
  · rw [hno] at h
    cases h
end Go.Proofs.YtjcffopjohkmaaaDoor.Pi
namespace Go.Proofs.YtjcffopjohkmaaaDoor.Pi
variable {P : Program} {g : G} {L L' : Owner} {w w' : World} {H : Heap} {x : Nat} {env : Env}
def OpRes (x : Nat) (g : G) (w : World) (env' : Env) (tm : Array Value) (d : Option Tmp) (r : Result Next) : Out PV → Prop
  | .ok v H' => ∃ cv w' g', (r = .ok (.value cv) w' ∨ (r = .ok .skip w' ∧ cv = undef)) ∧ Glob g w g' w' ∧ Inv g' H' w' ∧ TOk x g' env' tm ∧ ∀ t, d = some t → RepT g' (.tmp t) v cv
  | .pan v H' => ∃ cv w' g', r = .halt (.panic cv) w' ∧ Glob g w g' w' ∧ Inv g' H' w' ∧ Grow IsTmp g g' ∧ Rep g'.io g'.im v cv
theorem ValOk.op {s : Sem Value} {out : Out PV} {env' : Env} {tm : Array Value} {d : Option Tmp} (h : ValOk P x g w env' tm d s out) : OpRes x g w env' tm d ((do pure (.value (← s)) : Sem Next).run P w) out := by
  cases out with
  | ok v H' =>
    obtain ⟨cv, w', g', h1, r⟩ := h
    exact ⟨cv, w', g', .inl (by simp [h1]), r⟩
  | pan v H' =>
    obtain ⟨cv, w', g', h1, r⟩ := h
    exact ⟨cv, w', g', by simp [h1, Result.andThen], r⟩
theorem UnitOk.op {s : Sem Unit} {out : Out PV} {env' : Env} {tm : Array Value} {d : Option Tmp} (h : UnitOk P x g w env' tm s out) : OpRes x g w env' tm d ((do s; pure .skip : Sem Next).run P w) out := by
  cases out with
  | ok v H' =>
    obtain ⟨w', g', h0, h1, h2, h3, h4⟩ := h
    exact ⟨undef, w', g', .inr ⟨by simp [h1], rfl⟩, h2, h3, h4, fun t _ => by rw [h0]; exact .one (.undef _)⟩
  | pan v H' => exact h.elim
theorem u02 {b : Bool} {m : M PV} {out : Out PV} (h : guardM b m H = some out) : b = true ∧ m H = some out := by
  unfold guardM at h
  cases b
  · simp [M.fail] at h
  · exact ⟨rfl, h⟩
theorem u5e : (runtimePanic .nilDeref : Sem Next).run P w = .halt (.panic (.iface P.rt.errorString (strVal "invalid memory address or nil pointer dereference"))) w := by simp [runtimePanic]
theorem u5l : Rep g.io g.im (nilDeref P) (.iface P.rt.errorString (strVal "invalid memory address or nil pointer dereference")) := .iface (.flat (.str _))
def srcMv (mv : Bool) : Operand → Option (Tmp × Option Nat)
  | .tmp s => bif mv then some (s, none) else none
  | _ => none
def srcEx (i : Nat) : Operand → Option (Tmp × Option Nat)
  | .tmp s => some (s, some i)
  | _ => none
theorem uhw {X : Operand} {mv : Bool} {d : Option Tmp} {a : Act} {out : Out PV} (hi : Inv g H w) (hT : TOk x g env a.tmps) (h : M.pure (bif mv then ev env X else strip (ev env X)) H = some out) :
    OpRes x g w (giveUp env (srcMv mv X)) a.tmps d (.ok (.value (a.eval X)) w) out := by
  simp only [M.pure, Option.some.injEq] at h
  subst h
  have rX := ev_rep hi hT X
  cases mv with
  | false =>
    have e : srcMv false X = none := by cases X <;> rfl
    rw [e]
    exact ⟨a.eval X, w, g, .inl rfl, Glob.refl _ _, hi, hT, fun t _ => rX.strip⟩
  | true =>
    cases X with
    | tmp s =>
      cases d with
      | none => exact ⟨_, w, g, .inl rfl, Glob.refl _ _, hi, hT.giveUp _, fun t ht => nomatch ht⟩
      | some d =>
        refine ⟨_, w, g.ren (mvTmp s d), .inl rfl, u1a (fun M => rfl), hi.ren (fun _ _ => rfl), hT.move s d, fun t ht => ?_⟩
        simp only [Option.some.injEq] at ht
        subst ht
        refine rX.ren ?_ (fun j => ?_)
        · show (if s = s then _ else _) = _
          rw [if_pos rfl]
        · show (if s = s then _ else _) = _
          rw [if_pos rfl]
    | const v => exact ⟨_, w, g, .inl rfl, Glob.refl _ _, hi, hT, fun t _ => u51 v _⟩
    | global v =>
      refine ⟨_, w, g, .inl rfl, Glob.refl _ _, hi, hT, fun t _ => ?_⟩
      show RepT g _ (GT v) _
      rcases hi.gl v with e | e
      · rw [e]; exact .one (.undef _)
      · exact .one (.pure (e.mono ⟨fun i b h => by simp at h, fun b s h => by cases h⟩ (fun _ _ _ h => h)))
    | func v => exact ⟨_, w, g, .inl rfl, Glob.refl _ _, hi, hT, fun t _ => rT (.fn rfl rfl (fun j c v h => by simp at h) (fun j c v h => by simp at h)) _⟩
theorem ufi {X : Operand} {i : Nat} {d : Option Tmp} {a : Act} {out : Out PV} (hi : Inv g H w) (hT : TOk x g env a.tmps) (h : ex i (ev env X) H = some out) :
    OpRes x g w (giveUp env (srcEx i X)) a.tmps d ((do pure (.value (← Instr.extract (a.eval X) i)) : Sem Next).run P w) out := by
  have rX := ev_rep hi hT X
  cases X with
  | tmp s =>
    cases hp : ev env (.tmp s) with
    | tup ps =>
      rw [hp] at h rX
      obtain ⟨vs, hv, h1, h2⟩ := rX.tupI
      unfold ex at h
      dsimp only at h
      cases hpi : ps[i]? with
      | none => rw [hpi] at h; simp [M.fail] at h
      | some p =>
        rw [hpi] at h
        simp only [M.pure, Option.some.injEq] at h
        subst h
        have hlt : i < vs.size := by rw [h1]; exact (List.getElem?_eq_some_iff.mp hpi).1
        have hvi : vs[i]? = some vs[i] := by simp [hlt]
        have hr := h2 i p vs[i] hpi hvi
        have hrun : ((do pure (.value (← Instr.extract (a.eval (.tmp s)) i)) : Sem Next).run P w) = .ok (.value vs[i]) w := by
          rw [hv]
          simp [Instr.extract, hvi]
        rw [hrun]
        cases d with
        | none => exact ⟨_, w, g, .inl rfl, Glob.refl _ _, hi, hT.giveUp (some (s, some i)), fun t ht => nomatch ht⟩
        | some d =>
          refine ⟨_, w, g.ren (mvSub s i d), .inl rfl, u1a (fun M => rfl), hi.ren (fun _ _ => rfl), hT.moveSub s i d, fun t ht => ?_⟩
          simp only [Option.some.injEq] at ht
          subst ht
          refine .one (hr.ren ?_)
          show (if s = s ∧ i = i then _ else _) = _
          rw [if_pos ⟨rfl, rfl⟩]
    | _ => (rw [hp] at h; unfold ex at h; exact nomatch h)
  | const v =>
    have : ∀ ps, ev env (.const v) ≠ .tup ps := by
      intro ps hps
      simp only [ev] at hps
      unfold ofV at hps
      split at hps
      · split at hps <;> cases hps
      · rename_i f aa bb
        cases hab : (aa.size == 0 && bb.size == 0) <;> rw [hab] at hps <;> simp at hps
      · unfold ofVC at hps
        split at hps <;> simp at hps
    generalize ev env (.const v) = q at h this
    cases q <;> first | exact absurd rfl (this _) | (unfold ex at h; exact nomatch h)
  | global v => (simp only [ev] at h; rcases ufc v with e | ⟨cs, e⟩ <;> rw [e] at h <;> unfold ex at h <;> exact nomatch h)
  | func v => (simp only [ev] at h; unfold ex at h; exact nomatch h)
def u3h : Op → Bool
  | .call { callee := .builtin .recover, .. } => false
  | .call { callee := .builtin _, .. } => true
  | .call _ | .defer _ => false
  | _ => true
theorem ud0 {a : Act} (hi : Inv g H w) (hT : TOk x g env a.tmps) (o : Option Operand) : (∀ q, o.map (ev env) = some q → ∃ v L, o.map a.eval = some v ∧ RepT g L q v) ∧ (o.map (ev env) = none → o.map a.eval = none) := by
  cases o with
  | none => exact ⟨fun q h => by simp at h, fun _ => rfl⟩
  | some X =>
    refine ⟨fun q h => ?_, fun h => by simp at h⟩
    simp only [Option.map_some, Option.some.injEq] at h
    subst h
    exact ⟨_, _, rfl, ev_rep hi hT X⟩
theorem udn {a : Act} (hi : Inv g H w) (hT : TOk x g env a.tmps) (l : Array Operand) : ∀ (j : Nat) (c : PV) (v : Value), (l.toList.map (ev env))[j]? = some c → (l.map a.eval)[j]? = some v → ∃ L, RepT g L c v := by
  intro j c v hc hv
  simp only [List.getElem?_map, Option.map_eq_some_iff] at hc
  obtain ⟨X, hX, rfl⟩ := hc
  have hX2 : l[j]? = some X := by simpa using hX
  simp only [Array.getElem?_map, hX2, Option.map_some, Option.some.injEq] at hv
  subst hv
  exact ⟨_, ev_rep hi hT X⟩
end Go.Proofs.YtjcffopjohkmaaaDoor.Pi
namespace Go.Proofs.YtjcffopjohkmaaaDoor.Pi
variable {P : Program} {g : G} {L L' : Owner} {w w' : World} {H : Heap} {x : Nat} {env : Env}
theorem ukg (p : PV) : (∃ id, p = .ptr id 0) ∨ ∀ n q hi H, slAL n p q hi H = none := by
  cases p with
  | ptr id o =>
    cases o with
    | zero => exact .inl ⟨id, rfl⟩
    | succ k => exact .inr fun _ _ _ _ => rfl
  | _ => exact .inr fun _ _ _ _ => rfl
theorem uld {t e : TypeId} {n : Nat} {hi' : Option PV} {chi clo : Option Value} {p q0 : PV} {u : Value} {tm : Array Value} {out : Out PV} (d : Option Tmp) (hu : P.underlying t = some (.array n e)) (hsz : tsize P e = 1) (hk : known P e = true)
    (h : slAL n p q0 hi' H = some out) (hi : Inv g H w) (ht : TOk x g env tm) (hp : RepT g L p u) (rhi : ∀ q, hi' = some q → ∃ v L, chi = some v ∧ RepT g L q v) (nhi : hi' = none → chi = none) (rlo : ∀ q, some q0 = some q → ∃ v L, clo = some v ∧ RepT g L q v) :
    ValOk P x g w env tm d (Instr.sliceAt t u clo chi none) out := by
  obtain ⟨de, hde⟩ := u1j hk
  obtain ⟨inf, hinf⟩ := u08 hde
  rcases ukg p with ⟨id, rfl⟩ | hno
  · skip
    obtain ⟨b, hb, rfl⟩ := hp.ptr
    have h : slHL n id H H[id]? (bnd n hi') (bnd 0 (some q0)) = some out := h
    cases hy : H[id]? with
    | none => rw [hy] at h; cases h
    | some y =>
      cases y with
      | cells cs =>
        cases hbn : bnd n hi' with
        | none => rw [hy, hbn] at h; cases h
        | some hh =>
        cases hbl : bnd 0 (some q0) with
        | none => rw [hy, hbn, hbl] at h; cases h
        | some l =>
          rw [hy, hbn, hbl] at h
          obtain ⟨b', hb', hbox⟩ := hi.boxAt hy
          obtain rfl : b = b' := by rw [hb] at hb'; exact Option.some.inj hb'
          obtain ⟨h1, h2, vs, T, h3, h4, h5⟩ := hbox
          have h : (bif (decide (l ≤ hh) && decide (hh ≤ n)) && (cs.length == n && (cs.map stripC).all (u0a none)) then some (Out.ok (.slice false false 1 (((cs.map stripC).take hh).drop l)) (H.set id .dead)) else none) = some out := h
          cases hc : ((decide (l ≤ hh) && decide (hh ≤ n)) && (cs.length == n && (cs.map stripC).all (u0a none))) with
          | false => rw [hc] at h; simp at h
          | true =>
            rw [hc] at h
            simp only [cond_true, Option.some.injEq] at h
            subst h
            simp only [Bool.and_eq_true, beq_iff_eq, decide_eq_true_eq] at hc
            obtain ⟨⟨hlh, hhn⟩, hcn, hall⟩ := hc
            have hblt : b < w.heap.size := (Array.getElem?_eq_some_iff.mp h3).1
            have hbo := u2l (P := P) (w := w) (g := g) (isS := false) (len := n) (cap := n) (lo := some q0) (clo := clo) hbn hbl rlo (fun hq => by cases hq) rhi nhi hlh hhn
            have hrun : (Instr.sliceAt t (.pointer (some ⟨b, 0, none⟩)) clo chi none).run P w = .ok (.slice (some (if n = l then ⟨b, 0, none⟩ else ⟨b, l, none⟩)) (hh - l) (n - l)) w := by
              have hse : (sizeOf e).run P w = .ok (tsize P e) w := u07 (w := w) hinf
              simp [Instr.sliceAt, run_underlying hu, Instr.sureAddr, hbo, hse, hsz, Addr.add]
              split <;> simp_all
            let g' : G := ⟨g.io, fun b' o => if b' = b then (if o < hh then vs[o]? else none) else g.im b' o, g.ow, g.N⟩
            have hgr : Grow (fun _ => True) g g' := by
              refine ⟨IoLe.refl _, fun b' o v hv => ?_, fun b' L s _ hbo' => ?_, rfl⟩
              · show (if b' = b then _ else g.im b' o) = _
                rw [if_neg (fun e => by subst e; rw [h2] at hv; cases hv)]
                exact hv
              · have hne : b' ≠ b := fun e => by subst e; rw [h1] at hbo'; cases hbo'
                refine ⟨hbo', fun o ho => ?_⟩
                · show (if b' = b then _ else g.im b' o) = _
                  rw [if_neg hne]; exact ho
            have hcell : ∀ (o : Nat) (c : PV) (v : Value), cs[o]? = some c → vs[o]? = some v → RepF g'.im (stripC c) v ∧ (stripC c).cells = [stripC c] := by
              intro o c v hc' hv
              obtain ⟨r1, r2, _⟩ := h5 o c v hc' hv
              have hf : u0a none (stripC c) = true := List.all_eq_true.mp hall _ (List.mem_map.mpr ⟨c, List.mem_of_getElem? hc', rfl⟩)
              have hl : (stripC c).cells = [stripC c] := by
                have r3 : isCell (stripC c) = true := by rwa [u10]
                generalize stripC c = q at r3
                cases q <;> first | rfl | simp [isCell] at r3
              have hone := u1o r1 r2
              have hv1 : v.cells = #[v] := by cases v <;> first | rfl | simp [Value.oneCell'] at hone
              exact ⟨((u4l hf (.one r1)).2.2.2 0 (stripC c) v (by rw [hl]; rfl) (by rw [hv1]; rfl)).mono hgr.im, hl⟩
            refine ⟨_, w, g', hrun, ⟨rfl, rfl, rfl, Nat.le_refl _, fun b' hb1 hb2 hb3 => ?_, hgr.sub (fun _ _ => True.intro)⟩, ?_, ht.mono hgr (fun _ _ => True.intro), fun t' ht' => ?_⟩
            · have hne : b' ≠ b := fun e => by subst e; exact hb3 (List.mem_of_getElem? hb)
              exact ⟨hb2, hb3, rfl⟩
            · refine ⟨by have := hi.len; simpa [g', G.ι] using this, fun i j b hi' hj' li lj => hi.nd i j b hi' hj' (u1x li) (u1x lj), fun b' o v hv => ?_, fun b' L s hbs => ?_, fun id' b' y hbi hy' => ?_, hi.gl.mono hgr.im, hi.zl, fun n hn => by have := hi.nn n hn; simpa using this⟩
              · by_cases e : b' = b
                · subst e
                  have hv : (if b' = b' then (if o < hh then vs[o]? else none) else g.im b' o) = some v := hv
                  rw [if_pos rfl] at hv
                  split at hv
                  · rw [u2y h3]; exact hv
                  · cases hv
                · have hv : (if b' = b then (if o < hh then vs[o]? else none) else g.im b' o) = some v := hv
                  rw [if_neg e] at hv
                  exact hi.im b' o v hv
              · exact hi.ow b' L s hbs
              · by_cases e : id' = id
                · subst e
                  have hlt : id' < H.length := by
                    have := (List.getElem?_eq_some_iff.mp hy').1
                    simpa using this
                  rw [List.getElem?_set_self hlt] at hy'
                  cases hy'
                  have hbq : g.ι[id']? = some b' := by assumption
                  have : b' = b := by rw [hb] at hbq; exact (Option.some.inj hbq).symm
                  rw [this]
                  exact hblt
                · rw [List.getElem?_set_ne (fun h => e h.symm)] at hy'
                  by_cases hd' : y = .dead
                  · subst hd'
                    have : b' < w.heap.size := hi.box id' b' _ hbi hy'
                    exact this
                  have hne : b' ≠ b := fun h => by subst h; exact e (hi.nd _ _ _ hbi hb (u1c hy' hd') (u1c hy (by simp)))
                  refine (hi.box id' b' y hbi hy').mono (hgr.sub (fun _ _ => True.intro)) (fun ho => ho) (fun ho o => ?_) rfl (Nat.le_refl _)
                  · show (if b' = b then _ else g.im b' o) = _
                    rw [if_neg hne]; exact ho o
            · have hlen : (((cs.map stripC).take hh).drop l).length = hh - l := by simp; omega
              have get : ∀ (i : Nat) (y : PV), (((cs.map stripC).take hh).drop l)[i]? = some y → l + i < hh ∧ ∃ c v, cs[l + i]? = some c ∧ y = stripC c ∧ vs[l + i]? = some v := by
                intro i y hy'
                have hlt : i < hh - l := by
                  have := (List.getElem?_eq_some_iff.mp hy').1
                  omega
                rw [List.getElem?_drop, List.getElem?_take, if_pos (by omega), List.getElem?_map] at hy'
                obtain ⟨c, hc', rfl⟩ := Option.map_eq_some_iff.mp hy'
                exact ⟨by omega, c, vs[l + i], hc', rfl, Array.getElem?_eq_getElem (by omega)⟩
              have key : ∀ off', (l < hh → off' = l) → Rep g'.io g'.im (.slice false false 1 (((cs.map stripC).take hh).drop l)) (.slice (some ⟨b, off', none⟩) (hh - l) (n - l)) := by
                intro off' hoff
                rw [← hlen]
                refine .flat (.slice (fun i _ => vs.getD (l + i) undef) (.inl rfl) (by omega) (fun i y hy' => ?_) (fun i y j c0 hy' hj => ?_) (fun i y j c0 hy' hj => ?_))
                · obtain ⟨_, c, v, hc', rfl, hv⟩ := get i y hy'
                  rw [(hcell _ c v hc' hv).2]
                  rfl
                · obtain ⟨hlt, c, v, hc', rfl, hv⟩ := get i y hy'
                  rw [(hcell _ c v hc' hv).2] at hj
                  have hj0 : j = 0 := by
                    have := (List.getElem?_eq_some_iff.mp hj).1
                    simp at this
                    omega
                  subst hj0
                  rw [hoff (by omega)]
                  show (if b = b then (if l + i * 1 + 0 < hh then vs[l + i * 1 + 0]? else none) else _) = _
                  rw [if_pos rfl, if_pos (by omega)]
                  simp [Array.getD_eq_getD_getElem?, hv]
                · obtain ⟨hlt, c, v, hc', rfl, hv⟩ := get i y hy'
                  have hr := hcell _ c v hc' hv
                  rw [hr.2] at hj
                  have hj0 : j = 0 := by
                    have := (List.getElem?_eq_some_iff.mp hj).1
                    simp at this
                    omega
                  subst hj0
                  cases hj
                  simp only [Array.getD_eq_getD_getElem?, hv, Option.getD_some]
                  exact hr.1
              by_cases hcl : n = l
              · rw [if_pos hcl]
                exact rT (key 0 (fun hlt => by omega)) _
              · rw [if_neg hcl]
                exact rT (key l (fun _ => rfl)) _
      | iter s q => rw [hy] at h; cases h
      | dead => rw [hy] at h; cases h
  · rw [hno] at h
    cases h
end Go.Proofs.YtjcffopjohkmaaaDoor.Pi
namespace Go.Proofs.YtjcffopjohkmaaaDoor.Pi
variable {P : Program} {g : G} {L L' : Owner} {w w' : World} {H : Heap} {x : Nat} {env : Env}
theorem u4x {n : Nat} : ∀ {l : List PV}, (∀ (j : Nat) (c : PV), l[j]? = some c → c.low n = true) → lowL n l = true
  | [], _ => by simp only [lowL]
  | v :: r, h => by
    simp only [lowL, Bool.and_eq_true]
    exact ⟨h 0 v rfl, u4x fun j c hc => h (j + 1) c (by simpa using hc)⟩
theorem Rep.lowLen {ι : Io} {im : Nat → Nat → Option Value} {p : PV} {v : Value} (h : Rep ι im p v) : p.low ι.l.length = true := by
  induction h with
  | flat h => cases h <;> simp [PV.low]
  | ptr h => simp only [PV.low, decide_eq_true_eq]; exact (List.getElem?_eq_some_iff.mp h).1
  | win h _ _ _ _ => simp only [PV.low, decide_eq_true_eq]; exact (List.getElem?_eq_some_iff.mp h).1
  | lit vs hn hl hc him hr ih => simp only [PV.low]; exact u4x ih
  | lel vs hc him hr ih => simp only [PV.low]; exact u4x ih
  | elem vs him hr => simp [PV.low]
  | fn h1 h2 r1 r2 ih1 ih2 =>
    simp only [PV.low, Bool.and_eq_true]
    refine ⟨u4x fun j c hc => ?_, u4x fun j c hc => ?_⟩
    · have := (List.getElem?_eq_some_iff.mp hc).1
      exact ih1 j c _ hc (Array.getElem?_eq_getElem (by omega))
    · have := (List.getElem?_eq_some_iff.mp hc).1
      exact ih2 j c _ hc (Array.getElem?_eq_getElem (by omega))
  | iface _ ih => simpa [PV.low] using ih
  | agg h1 hc r ih =>
    simp only [PV.low]
    refine u4x fun j c hc' => ?_
    have := (List.getElem?_eq_some_iff.mp hc').1
    exact ih j c _ hc' (Array.getElem?_eq_getElem (by omega))
theorem uic {N : Option Nat} {i j : Nat} {c : PV} (h : i ≤ j) (hc : lowB N i c = true) : lowB N j c = true := by
  unfold lowB at hc ⊢
  cases N
  · rfl
  · exact u1r (by omega) c hc
theorem Rep.lowB {p : PV} {v : Value} (h : Rep g.io g.im p v) (hi : Inv g H w) (N : Option Nat) : Pi.lowB N H.length p = true := by
  have := h.lowLen
  have hl : g.io.l.length = H.length := hi.len
  rw [hl] at this
  exact u4z (u1r (by omega) p this)
def mvBB (i j : Nat) : Owner → Owner
  | .cell k o => if k = i then .cell j o else .cell k o
  | M => M
theorem Inv.kill {id : Nat} {f : Owner → Owner} (h : Inv g H w) (hf : ∀ k o, k ≠ id → f (.cell k o) = .cell k o) : Inv (g.ren f) (H.set id .dead) w := by
  refine ⟨by have := h.len; simpa [G.ren, G.ι] using this, fun i j b hi hj li lj => h.nd i j b hi hj (u1x li) (u1x lj), h.im, fun b M s hb => ?_, fun k b y hk hy => ?_, h.gl, h.zl, fun n hn => by have := h.nn n hn; simpa using this⟩
  · simp only [G.ren, Option.map_eq_some_iff] at hb
    obtain ⟨⟨M', s'⟩, h1, h2⟩ := hb
    simp only [Prod.mk.injEq] at h2
    obtain ⟨_, rfl⟩ := h2
    exact h.ow b M' s' h1
  · by_cases e : id = k
    · subst e
      have hl : id < (H.set id .dead).length := (List.getElem?_eq_some_iff.mp hy).1
      simp at hl
      rw [List.getElem?_set_self hl] at hy
      cases hy
      exact h.lt_ι hk
    · rw [List.getElem?_set_ne e] at hy
      exact (h.box k b y hk hy).ren (fun o => hf k o (fun h => e h.symm))
theorem u52 {sz : Nat} (hpos : 0 < sz) : ∀ (ys : List PV), (∀ (i : Nat) (y : PV), ys[i]? = some y → y.cells.length = sz) →
    (ys.flatMap PV.cells).length = ys.length * sz ∧ ∀ (j : Nat) (c : PV), (ys.flatMap PV.cells)[j]? = some c → ∃ y, ys[j / sz]? = some y ∧ y.cells[j % sz]? = some c
  | [], _ => ⟨by simp, fun j c h => by simp at h⟩
  | y :: r, h => by
    obtain ⟨h1, h2⟩ := u52 hpos r fun i z hz => h (i + 1) z (by simpa using hz)
    have hy := h 0 y rfl
    refine ⟨by simp only [List.flatMap_cons, List.length_append, h1, hy, List.length_cons, Nat.add_mul, Nat.one_mul]; omega, fun j c hj => ?_⟩
    simp only [List.flatMap_cons] at hj
    by_cases hlt : j < sz
    · rw [List.getElem?_append_left (by omega)] at hj
      exact ⟨y, by rw [Nat.div_eq_of_lt hlt]; rfl, by rw [Nat.mod_eq_of_lt hlt]; exact hj⟩
    · rw [List.getElem?_append_right (by omega), hy] at hj
      obtain ⟨z, hz, hc⟩ := h2 _ c hj
      have e1 : j / sz = (j - sz) / sz + 1 := by rw [← Nat.add_div_right _ hpos]; congr 1; omega
      have e2 : j % sz = (j - sz) % sz := by rw [← Nat.add_mod_right (j - sz) sz]; congr 1; omega
      exact ⟨z, by rw [e1]; simpa using hz, by rw [e2]; exact hc⟩
theorem u60 (b off k : Nat) : (⟨b, off, none⟩ : Addr).add k = ⟨b, off + k, none⟩ := by unfold Addr.add; split <;> simp_all
theorem ucy {b off n sz cap : Nat} {vs : Array Value} {T : TypeId} (h3 : w.heap[b]? = some (.cells vs T (0, 0))) (hfit : off + n * sz ≤ vs.size) (hone : ∀ (j : Nat) (v : Value), j < n * sz → vs[off + j]? = some v → v.oneCell' = true) :
    Src P w sz (.slice (some ⟨b, off, none⟩) n cap) n ((vs.toList.drop off).take (n * sz)) := by
  have hl : ((vs.toList.drop off).take (n * sz)).length = n * sz := by simp; omega
  refine ⟨fun w' => by simp [Builtin.lenOf], fun w' hw' => ?_, hl, fun u hu => ?_⟩
  · have := run_firstCells_some (P := P) w' sz n ⟨b, off, none⟩ n cap ((vs.toList.drop off).take (n * sz)) hl (fun k q hq => by
      rw [u60, World.cell?, hw', h3]
      simp only [List.getElem?_take, List.getElem?_drop] at hq
      split at hq
      · simpa using hq
      · cases hq)
    exact this
  · obtain ⟨j, hj, rfl⟩ := List.getElem_of_mem hu
    have hj2 : j < n * sz := by omega
    refine hone j _ hj2 ?_
    simp
set_option maxHeartbeats 1000000 in
theorem ugq {sz k : Nat} {q : PV} {v : Value} {ys : List PV} (hpos : 0 < sz) (h : u3w sz q H = some (k, ys)) (hi : Inv g H w) (hq : RepT g L q v) :
    ∃ news, Src P w sz v k news ∧ ys.length = k * sz ∧ ∀ (j : Nat) (c : PV), ys[j]? = some c → ∃ u, news[j]? = some u ∧ Rep g.io g.im c u ∧ isCell c = true := by
  have flatCase : ∀ (l : List PV), tail sz q = some l → (k, ys) = (l.length, l.flatMap PV.cells) → ∃ news, Src P w sz v k news ∧ ys.length = k * sz ∧ ∀ (j : Nat) (c : PV), ys[j]? = some c → ∃ u, news[j]? = some u ∧ Rep g.io g.im c u ∧ isCell c = true := by
    intro l ht he
    simp only [Prod.mk.injEq] at he
    obtain ⟨rfl, rfl⟩ := he
    obtain ⟨news, h1, h2, h3⟩ := src_of (P := P) hpos ht hi hq
    obtain ⟨f1, f2⟩ := u52 hpos l h2
    refine ⟨news, h1, f1, fun j c hj => ?_⟩
    obtain ⟨y, hy, hc⟩ := f2 j c hj
    obtain ⟨u, hu, hr⟩ := h3 _ y _ c hy hc
    have e : j / sz * sz + j % sz = j := by rw [Nat.mul_comm]; exact Nat.div_add_mod j sz
    rw [e] at hu
    exact ⟨u, hu, .flat hr, hr.isCell⟩
  unfold u3w at h
  split at h
  · rename_i o z sy l
    cases hc : (z || sy == sz) with
    | false => rw [hc] at h; simp at h
    | true =>
      rw [hc] at h
      simp only [cond_true, Option.some.injEq] at h
      exact flatCase l (by simp only [tail, hc, cond_true]) h.symm
  · rename_i s
    cases hc : (sz == 1) with
    | false => rw [hc] at h; simp at h
    | true =>
      rw [hc] at h
      simp only [cond_true, Option.some.injEq] at h
      have hf : ∀ l : List UInt8, (l.map fun b => PV.int .u8 b.toNat).flatMap PV.cells = l.map fun b => PV.int .u8 b.toNat := by
        intro l
        induction l with
        | nil => rfl
        | cons a r ih => simp only [List.map_cons, List.flatMap_cons, ih]; rfl
      exact flatCase (s.data.toList.map fun b => .int .u8 b.toNat) (by simp only [tail, hc, cond_true]) (by rw [← h, hf]; simp)
  · rename_i sy n cs
    cases hc : (sy == sz) with
    | false => rw [hc] at h; simp at h
    | true =>
      rw [hc] at h
      simp only [cond_true, Option.some.injEq, Prod.mk.injEq] at h
      obtain ⟨rfl, rfl⟩ := h
      obtain rfl : sy = sz := by simpa using hc
      obtain ⟨b, o, cap, vs, rfl, hn, hl, h0, h1, h2⟩ := hq.lit
      have hnl : ((List.range cs.length).map vs).length = n * sy := by simp [hl]
      refine ⟨(List.range cs.length).map vs, ⟨fun w' => by simp [Builtin.lenOf], fun w' hw' => ?_, hnl, fun u hu => ?_⟩, hl, fun j c hj => ?_⟩
      · have := run_firstCells_some (P := P) w' sy n ⟨b, o, none⟩ n cap ((List.range cs.length).map vs) hnl (fun k q hq => by
          have hk : k < cs.length := by
            have := (List.getElem?_eq_some_iff.mp hq).1
            simpa using this
          simp [hk] at hq
          subst hq
          rw [u60]
          have := hi.im _ _ _ (h1 k cs[k] (List.getElem?_eq_getElem hk))
          simpa [World.cell?, hw'] using this)
        exact this
      · obtain ⟨k, hk, rfl⟩ := List.mem_map.mp hu
        have hk2 : k < cs.length := by simpa using hk
        exact u1o (g := g) (L := .res) (.pure (h2 k cs[k] (List.getElem?_eq_getElem hk2))) (h0 k _ (List.getElem?_eq_getElem hk2))
      · have hk2 : j < cs.length := (List.getElem?_eq_some_iff.mp hj).1
        exact ⟨vs j, by simp [hk2], h2 j c hj, h0 j c hj⟩
  · rename_i id off sy n
    cases hy : H[id]? with
    | none => rw [hy] at h; cases h
    | some y =>
      rw [hy] at h
      cases y with
      | iter _ _ => cases h
      | dead => cases h
      | cells cs =>
        dsimp only at h
        cases hc : (sy == sz && decide (off + n * sz ≤ cs.length)) with
        | false => rw [hc] at h; simp at h
        | true =>
          rw [hc] at h
          simp only [cond_true, Option.some.injEq, Prod.mk.injEq] at h
          obtain ⟨rfl, rfl⟩ := h
          simp only [Bool.and_eq_true, beq_iff_eq, decide_eq_true_eq] at hc
          obtain ⟨rfl, hfit⟩ := hc
          obtain ⟨b, off', cap, s, hb, hz, rfl, ho, hn, hs⟩ := hq.win
          obtain ⟨b', hb', h1, h2, vs, T, h3, h4, h5⟩ := hi.boxAt hy
          obtain rfl : b = b' := by rw [hb] at hb'; exact Option.some.inj hb'
          have h40 := h4.1
          have hlen : (((cs.drop off).take (n * sy)).map stripC).length = n * sy := by simp; omega
          have hmain : ∀ off'', (n = 0 ∨ off'' = off) → off'' + n * sy ≤ vs.size → ∃ news, Src P w sy (.slice (some ⟨b, off'', none⟩) n cap) n news ∧ (((cs.drop off).take (n * sy)).map stripC).length = n * sy ∧ ∀ (j : Nat) (c : PV), (((cs.drop off).take (n * sy)).map stripC)[j]? = some c → ∃ u, news[j]? = some u ∧ Rep g.io g.im c u ∧ isCell c = true := by
            intro off'' ho'' hf''
            refine ⟨_, ucy h3 hf'' (fun j v hj hv => ?_), hlen, fun j c hj => ?_⟩
            · have e : off'' = off := by
                rcases ho'' with h | h
                · subst h; simp at hj
                · exact h
              subst e
              have hjc : off'' + j < cs.length := by omega
              obtain ⟨r1, r2, _⟩ := h5 _ cs[off'' + j] v (List.getElem?_eq_getElem hjc) hv
              exact u1o r1 r2
            · have hjn : j < n * sy := by
                have := (List.getElem?_eq_some_iff.mp hj).1
                rwa [hlen] at this
              have e : off'' = off := by
                rcases ho'' with h | h
                · subst h; simp at hjn
                · exact h
              subst e
              simp only [List.getElem?_map, Option.map_eq_some_iff, List.getElem?_take, List.getElem?_drop, if_pos hjn] at hj
              obtain ⟨q, hq', rfl⟩ := hj
              have hjv : off'' + j < vs.size := by omega
              obtain ⟨r1, r2, _⟩ := h5 _ q vs[off'' + j] hq' (Array.getElem?_eq_getElem hjv)
              refine ⟨vs[off'' + j], ?_, r1.toRep (by cases q <;> first | rfl | simp [isCell] at r2), by rw [u10]; exact r2⟩
              simp [hjn]
          have hzs : s = vs.size := by
            have := h4.2
            rw [hz] at this
            exact Option.some.inj this
          refine hmain off' ?_ ?_
          · rcases ho with h | h
            · exact .inl (by omega)
            · exact .inr h
          · have : n * sy ≤ cap * sy := Nat.mul_le_mul_right _ hn
            omega
  · cases h
theorem newWin {cs : List PV} {vs : Array Value} {T : TypeId} {sz n cap : Nat} (hi : Inv g H w) (hp : Pushed w w' (.cells vs T (0, 0))) (h1 : cs.length ≤ vs.size)
    (hr : ∀ (j : Nat) (c : PV) (v : Value), cs[j]? = some c → vs[j]? = some v → RepS g (.cell H.length j) c v ∧ isCell c = true ∧ lowB g.N H.length c = true) (hn : n ≤ cap) (hs : cap * sz ≤ vs.size) :
    Inv (g.box w.heap.size vs.size) (H ++ [.cells cs]) w' ∧ Glob g w (g.box w.heap.size vs.size) w' ∧ Rep (g.box w.heap.size vs.size).io g.im (.win H.length 0 sz n) (.slice (some ⟨w.heap.size, 0, none⟩) n cap) := by
  refine ⟨hi.pushBox hp ⟨hi.ow_new, hi.im_new, vs, T, hp.new, ⟨h1, by simp [G.box]⟩, fun o c v hc hv => ?_⟩, Glob.pushBox hi hp, .win (s := vs.size) ?_ (by simp [G.box]) (.inr rfl) hn (by omega)⟩
  · obtain ⟨a, b, c'⟩ := hr o c v hc hv
    exact ⟨a.mono (u0s _ _ (fun _ => True) (.inl hi.z_new)) trivial, b, c'⟩
  · show (g.io.l ++ [w.heap.size])[H.length]? = _
    rw [← hi.len]
    simp [G.ι]
set_option maxHeartbeats 2000000 in
theorem ukb {t u ty e : TypeId} {a : Act} {A B : Operand} {out : Out PV} (d : Option Tmp) (ht : P.underlying t = some (.slice e)) (hu : u2w P u) (hl : listOk P e = true)
    (h : pushW (tsize P e) (tbytes P e) (ev env A) (ev env B) H = some out) (hi : Inv g H w) (hT : TOk x g env a.tmps) :
    ValOk P x g w (giveUp env (srcO A)) a.tmps d (Builtin.append_ #[t, u] ty #[a.eval A, a.eval B]) out := by
  obtain ⟨hk, hpos, hag, i, z, hinf, hz, hzs, his, hib⟩ := u13 hl
  have rA := ev_rep hi hT A
  have rB := ev_rep hi hT B
  have hT' : TOk x g (giveUp env (srcO A)) a.tmps := hT.giveUp _
  unfold pushW at h
  cases hsc : u3w (tsize P e) (ev env B) H with
  | none => rw [hsc] at h; cases h
  | some kys =>
    obtain ⟨k, ys⟩ := kys
    rw [hsc] at h
    dsimp only at h
    obtain ⟨news, hsrc, hyl, hyr⟩ := ugq (P := P) hpos hsc hi rB
    have hsrc' : Src P w i.size (a.eval B) k news := by rw [his]; exact hsrc
    have hyr' : ∀ (j : Nat) (c : PV) (v : Value), ys[j]? = some c → news[j]? = some v → RepS g (.cell H.length j) c v ∧ isCell c = true ∧ lowB g.N H.length c = true := by
      intro j c v hc hv
      obtain ⟨u, hu, hr, hcell⟩ := hyr j c hc
      rw [hu] at hv
      cases hv
      exact ⟨.pure hr, hcell, hr.lowB hi _⟩
    have hnl := hsrc.size
    cases hA : ev env A with
    | slice o zn sx xs =>
      rw [hA] at h rA
      cases zn with
      | false => cases h
      | true =>
        dsimp only at h
        have hv : a.eval A = .slice none 0 0 := by
          rcases rA.slice with ⟨_, _, _, hv⟩ | ⟨h0, _⟩
          · exact hv
          · cases h0
        rw [hv]
        cases hk0 : (k == 0) with
        | true =>
          rw [hk0] at h
          simp only [cond_true, Option.some.injEq] at h
          subst h
          obtain rfl : k = 0 := by simpa using hk0
          have hn0 : news = [] := List.eq_nil_of_length_eq_zero (by simpa using hnl)
          subst hn0
          exact ⟨.slice none 0 0, w, g, u7d ht hu hinf hsrc', Glob.refl _ _, hi, hT', fun _ _ => rF (.snil _) _⟩
        | false =>
          rw [hk0] at h
          simp only [cond_false] at h
          cases hgb : growB (tbytes P e) k with
          | false => rw [hgb] at h; cases h
          | true =>
            rw [hgb] at h
            simp only [cond_true, Option.some.injEq] at h
            subst h
            have hk1 : 0 < k := by
              have : k ≠ 0 := by simpa using hk0
              omega
            have hb := u25 hgb
            have hrun := u8w (P := P) (w := w) (ty := ty) ht hu hinf hz hsrc' hk1 (by have := hb.2; omega) (by rw [hib]; have := hb.1; omega)
            have hcap := grownCap_ge w k 0 e
            have hcs : (news.toArray ++ Builtin.zeroCells z.cells (grownCap w k 0 e - k)).size = grownCap w k 0 e * tsize P e := by
              rw [Array.size_append, u1p, hzs, List.size_toArray, hsrc.size, ← Nat.add_mul]
              congr 1
              omega
            have hle : k * tsize P e ≤ grownCap w k 0 e * tsize P e := Nat.mul_le_mul_right _ (by omega)
            obtain ⟨r1, r2, r3⟩ := newWin (cs := ys) (sz := tsize P e) (n := k) (cap := grownCap w k 0 e) hi (Pushed.drew w (.cells (news.toArray ++ Builtin.zeroCells z.cells (grownCap w k 0 e - k)) e)) (by rw [hcs]; omega) (fun j c v hc hv' => by
              have hj : j < news.length := by have := (List.getElem?_eq_some_iff.mp hc).1; omega
              rw [Array.getElem?_append_left (by simpa using hj)] at hv'
              exact hyr' j c v hc (by simpa using hv')) (by omega) (by rw [hcs]; exact Nat.le_refl _)
            exact ⟨_, _, _, hrun, r2, r1, hT'.mono (u0s _ _ _ (.inl hi.z_new)) (fun L h => h), fun t' _ => rT r3 _⟩
    | win id off sx n =>
      rw [hA] at h rA
      cases off with
      | succ o => cases h
      | zero =>
        have h : (match H[id]? with
          | some (.cells cs) => bif sx == tsize P e && (decide (n * tsize P e ≤ cs.length) && growB (tbytes P e) (n + k)) then some (.ok (.win H.length 0 (tsize P e) (n + k)) (H.set id .dead ++ [.cells (cs.take (n * tsize P e) ++ ys)])) else none
          | _ => none) = some out := h
        cases hy : H[id]? with
        | none => rw [hy] at h; cases h
        | some y =>
          rw [hy] at h
          cases y with
          | iter _ _ => cases h
          | dead => cases h
          | cells cs =>
            dsimp only at h
            cases hc : (sx == tsize P e && (decide (n * tsize P e ≤ cs.length) && growB (tbytes P e) (n + k))) with
            | false => rw [hc] at h; cases h
            | true =>
              rw [hc] at h
              simp only [cond_true, Option.some.injEq] at h
              subst h
              simp only [Bool.and_eq_true, beq_iff_eq, decide_eq_true_eq] at hc
              obtain ⟨rfl, hfit, hgb⟩ := hc
              obtain ⟨hb1, hb2⟩ := u25 hgb
              obtain ⟨b, off', cap, s, hb, hzz, hv, ho, hn, hs⟩ := rA.win
              obtain ⟨b', hb', h1, h2, vs, T, h3, h4, h5⟩ := hi.boxAt hy
              obtain rfl : b = b' := by rw [hb] at hb'; exact Option.some.inj hb'
              have h40 := h4.1
              have hzs2 : s = vs.size := by
                have := h4.2
                rw [hzz] at this
                exact Option.some.inj this
              subst hzs2
              have hid : id < H.length := (List.getElem?_eq_some_iff.mp hy).1
              rw [hv]
              have hH2 : (H.set id .dead).length = H.length := by simp
              have hi2 : Inv (g.ren (mvBB id H.length)) (H.set id .dead) w := hi.kill (fun k o hk => by
                show (if k = id then _ else _) = _
                rw [if_neg hk])
              have hT2 : TOk x (g.ren (mvBB id H.length)) (giveUp env (srcO A)) a.tmps := u4g (fun _ => rfl) (fun _ _ => rfl) hT'
              have hg2 : Glob g w (g.ren (mvBB id H.length)) w := u1a (fun M => rfl)
              have hold : ∀ (o : Nat) (c : PV) (v : Value), cs[o]? = some c → vs[o]? = some v → RepS (g.ren (mvBB id H.length)) (.cell H.length o) c v ∧ isCell c = true ∧ lowB g.N H.length c = true := by
                intro o c v hc hv'
                obtain ⟨r1, r2, r3⟩ := h5 o c v hc hv'
                refine ⟨r1.ren ?_, r2, uic (by omega) r3⟩
                show (if id = id then _ else _) = _
                rw [if_pos rfl]
              have hnew : ∀ (o j : Nat) (c : PV) (v : Value), ys[j]? = some c → news[j]? = some v → RepS (g.ren (mvBB id H.length)) (.cell H.length o) c v ∧ isCell c = true ∧ lowB g.N H.length c = true := by
                intro o j c v hc hv'
                obtain ⟨u, hu, hr, hcell⟩ := hyr j c hc
                rw [hu] at hv'
                cases hv'
                exact ⟨.pure hr, hcell, hr.lowB hi _⟩
              have hcut : ((cs.take (n * tsize P e)) ++ ys).length = (n + k) * tsize P e := by
                simp only [List.length_append, List.length_take, hyl, Nat.add_mul]
                omega
              by_cases hroom : n + k ≤ cap
              · -- in place
                have hle : (n + k) * tsize P e ≤ cap * tsize P e := Nat.mul_le_mul_right _ hroom
                have hle2 := hle
                rw [Nat.add_mul] at hle2
                have hcapz : off' = 0 ∨ cap = 0 := by rcases ho with h | h; exact .inr h; exact .inl h
                have hfit2 : off' + n * i.size + news.length ≤ vs.size := by rw [his, hnl]; omega
                have hrun := u7t (P := P) (w := w) (ty := ty) (t := t) (u := u) (e := e) (i := i) (v := a.eval B) (n := k) (news := news) ht hu hinf hsrc' (b := b) (off := off') (sLen := n) (sCap := cap) h3 hroom hfit2
                rw [his] at hrun hfit2
                generalize hw' : w.setRow b (vs.toList.take (off' + n * tsize P e) ++ news ++ vs.toList.drop (off' + n * tsize P e + news.length)).toArray = w1 at hrun
                have hnv : w1.heap[b]? = some (.cells (vs.toList.take (off' + n * tsize P e) ++ news ++ vs.toList.drop (off' + n * tsize P e + news.length)).toArray T (0, 0)) := by rw [← hw']; exact setRow_heap w b vs _ T _ h3
                have hoth : ∀ {k : Nat}, k ≠ b → w1.heap[k]? = w.heap[k]? := fun hk => by rw [← hw']; exact setRow_other w b _ _ hk
                have hszw : w1.heap.size = w.heap.size := by rw [← hw']; simp [World.setRow]
                have hos : w1.os = w.os ∧ w1.tape = w.tape ∧ w1.output = w.output := by rw [← hw']; exact ⟨rfl, rfl, rfl⟩
                have hvsz : (vs.toList.take (off' + n * tsize P e) ++ news ++ vs.toList.drop (off' + n * tsize P e + news.length)).toArray.size = vs.size := by simp; omega
                have hblt : b < w.heap.size := (Array.getElem?_eq_some_iff.mp h3).1
                have hz2 : (g.ren (mvBB id H.length)).io.z b = none ∨ (g.ren (mvBB id H.length)).io.z b = some vs.size := .inr h4.2
                have hinv : Inv ((g.ren (mvBB id H.length)).box b vs.size) (H.set id .dead ++ [.cells (cs.take (n * tsize P e) ++ ys)]) w1 := by
                  refine hi2.pushAt (fun j hj => ?_) (by rw [hszw]; exact hblt) hz2 (fun b' k' v' hv' => ?_) (fun b' M' t' hq' => ?_) (fun id' b' hq' hl' => ?_) (by rw [hszw]; exact Nat.le_refl _) ?_
                  · cases hlv : liveB (H.set id .dead) j with
                    | false => rfl
                    | true =>
                      have := hi.nd j id b hj hb (u1x hlv) (u1c hy (by simp))
                      subst this
                      unfold liveB at hlv
                      rw [List.getElem?_set_self hid] at hlv
                      cases hlv
                  · have hne : b' ≠ b := fun e' => by
                      subst e'
                      have hv' : g.im b' k' = some v' := hv'
                      rw [h2] at hv'; cases hv'
                    simp only [World.cell?, hoth hne]
                  · have hne : b' ≠ b := fun e' => by
                      subst e'
                      have : (g.ren (mvBB id H.length)).ow b' = none := ren_none.mpr h1
                      rw [this] at hq'; cases hq'
                    exact hoth hne
                  · have hne : b' ≠ b := fun e' => by
                      subst e'
                      have := hi.nd id' id _ hq' hb (u1x hl') (u1c hy (by simp))
                      subst this
                      unfold liveB at hl'
                      rw [List.getElem?_set_self hid] at hl'
                      cases hl'
                    exact hoth hne
                  · rw [hH2]
                    refine ⟨ren_none.mpr h1, h2, _, T, hnv, ⟨by rw [hvsz, hcut]; omega, by rw [hvsz]; simp [G.box]⟩, fun o c v hc hv' => ?_⟩
                    have hstep : RepS (g.ren (mvBB id H.length)) (.cell H.length o) c v ∧ isCell c = true ∧ lowB g.N H.length c = true := by
                      have ho2 : off' = 0 := by
                        rcases hcapz with h | h
                        · exact h
                        · exfalso
                          subst h
                          have hlt := (List.getElem?_eq_some_iff.mp hc).1
                          rw [hcut] at hlt
                          simp at hle
                          omega
                      subst ho2
                      rw [u2m (by omega)] at hv'
                      have hol := (List.getElem?_eq_some_iff.mp hc).1
                      rw [hcut, Nat.add_mul] at hol
                      by_cases ho3 : o < n * tsize P e
                      · rw [List.getElem?_append_left (by simp; omega), List.getElem?_take, if_pos ho3] at hc
                        rw [if_neg (by omega)] at hv'
                        exact hold o c v hc hv'
                      · rw [List.getElem?_append_right (by simp; omega)] at hc
                        rw [if_pos (by omega)] at hv'
                        have e1 : o - (cs.take (n * tsize P e)).length = o - (0 + n * tsize P e) := by simp; omega
                        rw [e1] at hc
                        exact hnew o _ c v hc hv'
                    exact ⟨hstep.1.mono (u0s _ _ (fun _ => True) hz2) trivial, hstep.2⟩
                refine ⟨_, w1, _, hrun, ⟨hos.1, hos.2.1, hos.2.2, by rw [hszw]; exact Nat.le_refl _, fun b' hb' e1 e2 => ?_, (hg2.up).trans (u0s _ _ _ hz2)⟩, hinv, hT2.mono (u0s _ _ _ hz2) (fun L h => h), fun t' _ => rT (.win (s := vs.size) ?_ (by simp [G.box]) ?_ hroom hs) _⟩
                · have hne : b' ≠ b := fun e' => e2 (e' ▸ List.mem_of_getElem? hb)
                  refine ⟨ren_none.mpr e1, ?_, hoth hne⟩
                  simp only [G.box, G.ren, G.ι, List.mem_append, List.mem_singleton, not_or]
                  exact ⟨e2, hne⟩
                · show (g.io.l ++ [b])[H.length]? = _
                  rw [← hi.len]
                  simp [G.ι]
                · rcases hcapz with h | h
                  · exact .inr h
                  · exact .inl h
              · -- elsewhere
                have hos := ucy (P := P) (w := w) (b := b) (off := off') (n := n) (sz := tsize P e) (cap := cap) h3 (by have : n * tsize P e ≤ cap * tsize P e := Nat.mul_le_mul_right _ hn; omega) (fun j v hj hv' => by
                  have ho2 : off' = 0 := by
                    rcases ho with h | h
                    · exfalso
                      have : n = 0 := by omega
                      subst this
                      simp at hj
                    · exact h
                  subst ho2
                  rw [Nat.zero_add] at hv'
                  have hjc : j < cs.length := by omega
                  obtain ⟨r1, r2, _⟩ := h5 j cs[j] v (List.getElem?_eq_getElem hjc) hv'
                  exact u1o r1 r2)
                have hrun := u7s (P := P) (w := w) (ty := ty) (t := t) (u := u) (e := e) (i := i) (z := z) (v := a.eval B) (n := k) (news := news) ht hu hinf hz hsrc' (b := b) (off := off') (sLen := n) (sCap := cap) (olds := (vs.toList.drop off').take (n * tsize P e)) (by rw [his]; exact hos) (by omega) (by omega) (growslice_fits (by omega) (by rw [hib]; exact hb1))
                have hcap := grownCap_ge w (n + k) cap e
                have hol := hos.size
                have hcs : (((vs.toList.drop off').take (n * tsize P e)).toArray ++ news.toArray ++ Builtin.zeroCells z.cells (grownCap w (n + k) cap e - (n + k))).size = grownCap w (n + k) cap e * tsize P e := by
                  rw [Array.size_append, Array.size_append, u1p, hzs, List.size_toArray, List.size_toArray, hsrc.size, hos.size, ← Nat.add_mul, ← Nat.add_mul]
                  congr 1
                  omega
                have hle : (n + k) * tsize P e ≤ grownCap w (n + k) cap e * tsize P e := Nat.mul_le_mul_right _ hcap
                obtain ⟨r1, r2, r3⟩ := newWin (g := g.ren (mvBB id H.length)) (H := H.set id .dead) (cs := cs.take (n * tsize P e) ++ ys) (sz := tsize P e) (n := n + k) (cap := grownCap w (n + k) cap e) hi2 (Pushed.drew w (.cells (((vs.toList.drop off').take (n * tsize P e)).toArray ++ news.toArray ++ Builtin.zeroCells z.cells (grownCap w (n + k) cap e - (n + k))) e)) (by rw [hcs, hcut]; exact hle) (fun j c v hc hv' => by
                  rw [hH2]
                  have hjl := (List.getElem?_eq_some_iff.mp hc).1
                  rw [hcut, Nat.add_mul] at hjl
                  have ho2 : n * tsize P e = 0 ∨ off' = 0 := by
                    rcases ho with h | h
                    · left
                      have : n = 0 := by omega
                      rw [this, Nat.zero_mul]
                    · exact .inr h
                  rw [Array.append_assoc] at hv'
                  by_cases hj : j < n * tsize P e
                  · have ho3 : off' = 0 := by rcases ho2 with h | h; omega; exact h
                    subst ho3
                    rw [List.getElem?_append_left (by simp; omega), List.getElem?_take, if_pos hj] at hc
                    rw [Array.getElem?_append_left (by rw [List.size_toArray, hol]; exact hj)] at hv'
                    simp only [List.getElem?_toArray, List.drop_zero, List.getElem?_take, if_pos hj] at hv'
                    exact hold j c v hc (by simpa using hv')
                  · rw [List.getElem?_append_right (by simp; omega)] at hc
                    rw [Array.getElem?_append_right (by rw [List.size_toArray, hol]; omega), List.size_toArray, hol, Array.getElem?_append_left (by rw [List.size_toArray, hnl]; omega)] at hv'
                    have e1 : j - (cs.take (n * tsize P e)).length = j - n * tsize P e := by simp; omega
                    rw [e1] at hc
                    exact hnew j _ c v hc (by simpa using hv')) hcap (by rw [hcs]; exact Nat.le_refl _)
                rw [hH2] at r3
                exact ⟨_, _, _, hrun, hg2.trans r2, r1, hT2.mono (u0s _ _ _ (.inl hi2.z_new)) (fun L h => h), fun t' _ => rT r3 _⟩
    | _ => (rw [hA] at h; cases h)
end Go.Proofs.YtjcffopjohkmaaaDoor.Pi
namespace Go.Proofs.YtjcffopjohkmaaaDoor.Pi
variable {P : Program} {g : G} {L L' : Owner} {w w' : World} {H : Heap} {x : Nat} {env : Env}
theorem u3e (z : List PV) : ∀ n, (u20 z n).length = n * z.length
  | 0 => by simp [u20]
  | n + 1 => by simp only [u20, List.length_append, u3e z n, Nat.add_mul, Nat.one_mul]; omega
theorem u5i {z : List PV} (hz : 0 < z.length) : ∀ (n j : Nat) (c : PV), (u20 z n)[j]? = some c → z[j % z.length]? = some c
  | 0, j, c, h => by simp [u20] at h
  | n + 1, j, c, h => by
    simp only [u20] at h
    by_cases hj : j < z.length
    · rw [List.getElem?_append_left hj] at h
      rw [Nat.mod_eq_of_lt hj]
      exact h
    · rw [List.getElem?_append_right (by omega)] at h
      have := u5i hz n _ c h
      rw [← Nat.add_mod_right (j - z.length) z.length, show j - z.length + z.length = j by omega] at this
      exact this
theorem u94 {z : Array Value} {n j : Nat} {v : Value} (hz : 0 < z.size) (h : (madeCells z n)[j]? = some v) : z[j % z.size]? = some v := by
  have hlt := (Array.getElem?_eq_some_iff.mp h).1
  rw [size_madeCells] at hlt
  have hm : j % z.size < z.size := Nat.mod_lt _ hz
  simp only [madeCells, Array.getElem?_map, Array.getElem?_range, hlt, if_true, Option.map_some, Option.some.injEq] at h
  rw [← h]
  simp [hm]
theorem ufo {t : TypeId} {i : TypeInfo} {z : Value} (h : P.info? t = some i) (hz : i.zero = some z) : tzero P t = ofV z := by
  unfold tzero
  rw [h]
  simp [hz]
theorem u7y {v : Value} {p : PV} (h : ofVC v = some p) : stripC p = p := by
  unfold ofVC at h
  split at h <;> simp only [Option.some.injEq, reduceCtorEq] at h <;> subst h <;> rfl
theorem u8u : ∀ {vs : List Value} {ps : List PV}, ofVs vs = some ps → ∀ (j : Nat) (c : PV), ps[j]? = some c → stripC c = c
  | [], ps, h => by simp [ofVs] at h; subst h; intro j c hc; simp at hc
  | v :: r, ps, h => by
    simp only [ofVs] at h
    split at h
    · rename_i a b ha hb
      simp only [Option.some.injEq] at h
      subst h
      intro j c hc
      cases j with
      | zero => simp at hc; subst hc; exact u7y ha
      | succ j => exact u8u hb j c (by simpa using hc)
    · simp at h
theorem uh6 (z : Value) (j : Nat) (c : PV) (h : (ofV z).cells[j]? = some c) (hc : isCell c = true) : stripC c = c := by
  unfold ofV at h
  split at h
  · split at h
    · rename_i l hl
      exact u8u hl j c h
    · simp only [PV.cells] at h
      have : j = 0 := by have := (List.getElem?_eq_some_iff.mp h).1; simp at this; omega
      subst this
      simp at h
      subst h
      rfl
  · rename_i f a b
    cases hab : (a.size == 0 && b.size == 0) <;> rw [hab] at h <;> simp only [cond_true, cond_false, PV.cells] at h <;>
      (have : j = 0 := by (have := (List.getElem?_eq_some_iff.mp h).1; simp at this; omega)) <;> subst this <;> simp at h <;> subst h <;> rfl
  · cases hov : ofVC z with
    | none =>
      rw [hov] at h
      simp only [Option.getD_none, PV.cells] at h
      have : j = 0 := by have := (List.getElem?_eq_some_iff.mp h).1; simp at this; omega
      subst this
      simp at h
      subst h
      rfl
    | some p =>
      rw [hov] at h
      simp only [Option.getD_some] at h
      have hcell := u4r hov
      have e : p.cells = [p] := by cases p <;> first | rfl | simp [isCell] at hcell
      rw [e] at h
      have : j = 0 := by have := (List.getElem?_eq_some_iff.mp h).1; simp at this; omega
      subst this
      simp at h
      subst h
      exact u7y hov
theorem mkW_ok {t e : TypeId} {p q : PV} {u v : Value} {out : Out PV} {tm : Array Value} (d : Option Tmp) (hu : P.underlying t = some (.slice e)) (hl : listOk P e = true)
    (h : mkW (tzero P e).cells (tsize P e) (tbytes P e) p q H = some out) (hi : Inv g H w) (hT : TOk x g env tm) (hp : RepT g L p u) (hq : RepT g L' q v) : ValOk P x g w env tm d (Instr.makeSlice t u v) out := by
  obtain ⟨hk, hpos, hag, i, z, hinf, hz, hzs, his, hib⟩ := u13 hl
  unfold mkW at h
  split at h
  · rename_i k n k' m
    obtain rfl := hp.int
    obtain rfl := hq.int
    cases hc : ((decide (0 ≤ n) && (decide (n ≤ m) && growB (tbytes P e) m.toNat)) && ((tzero P e).cells.length == tsize P e && (tzero P e).cells.all isCell)) with
    | false => rw [hc] at h; cases h
    | true =>
      rw [hc] at h
      simp only [cond_true, Option.some.injEq] at h
      subst h
      simp only [Bool.and_eq_true, decide_eq_true_eq, beq_iff_eq] at hc
      obtain ⟨⟨hn, hnm, hg⟩, hzl, hzc⟩ := hc
      obtain ⟨g1, g2⟩ := u25 hg
      have hbm : (i.bytes : Int) * m ≤ 281474976710656 := by
        rw [hib]
        have e1 : ((m.toNat * tbytes P e : Nat) : Int) ≤ 281474976710656 := by omega
        rw [Int.natCast_mul, Int.toNat_of_nonneg (by omega), Int.mul_comm] at e1
        exact e1
      have hrun := run_make (P := P) w t e i z hu hinf hz k k' n m hn hnm hbm (by omega)
      rw [ufo hinf hz] at hzl hzc ⊢
      obtain ⟨c1, c2⟩ := u26 (u51 (g := g) z .res) hzc
      have hle : n.toNat * tsize P e ≤ m.toNat * tsize P e := Nat.mul_le_mul_right _ (by omega)
      have hvs : (madeCells z.cells (m.toNat * i.size)).size = m.toNat * tsize P e := by rw [size_madeCells, his]
      obtain ⟨r1, r2, r3⟩ := newWin (cs := u20 (ofV z).cells n.toNat) (sz := tsize P e) (n := n.toNat) (cap := m.toNat) hi (Pushed.alloc w (.cells (madeCells z.cells (m.toNat * i.size)) e)) (by rw [hvs, u3e, hzl]; exact hle) (fun j c v hc hv => by
        have hc' := u5i (by omega) _ _ _ hc
        have hv' := u94 (by omega) hv
        rw [hzl] at hc'
        rw [hzs] at hv'
        have hcell := u2e hzc hc'
        have hr := (c2 _ c v hc' hv').toRep (by cases c <;> first | rfl | simp [isCell] at hcell)
        have hns : stripC c = c := uh6 z _ c hc' hcell
        rw [hns] at hr
        exact ⟨.pure hr, hcell, hr.lowB hi _⟩) (by omega) (by rw [hvs]; exact Nat.le_refl _)
      exact ⟨_, _, _, hrun, r2, r1, hT.mono (u0s _ _ _ (.inl hi.z_new)) (fun L h => h), fun t' _ => rT r3 _⟩
  · cases h
theorem u9z {t e : TypeId} {n : Nat} {ps : Array (Nat × Operand)} {a : Act} (hu : P.underlying t = some (.slice e)) (hpos : 0 < tsize P e) (hroom : n * tsize P e ≤ 16777216)
    (hz : ∃ i z, P.info? e = some i ∧ i.zero = some z ∧ z.cells.size = tsize P e) (hps : ps.toList.map (·.1) = List.range n) (hvs : ∀ v ∈ ps.toList.map (fun q => a.eval q.2), v.cells.size = tsize P e) :
    (Instr.buildSlice t n (ps.map fun (i, y) => (i, a.eval y))).run P w = .ok (.slice (some ⟨w.heap.size, 0, none⟩) n n) (w.alloc (.cells ((ps.toList.map (fun q => a.eval q.2)).flatMap fun v => v.cells.toList).toArray e)) := by
  obtain ⟨i, z, hinf, hzero, hzs⟩ := hz
  have hlen : ps.toList.length = n := by
    have := congrArg List.length hps
    simpa using this
  have hparts : (ps.map fun (i, y) => (i, a.eval y)).toList = (((ps.toList.map (fun q => a.eval q.2)).zipIdx 0).map fun y => (y.2, y.1)) := by
    apply List.ext_getElem?
    intro j
    simp only [Array.toList_map, List.getElem?_map, List.getElem?_zipIdx]
    cases hj : ps.toList[j]? with
    | none => rfl
    | some q =>
      have hjl : j < ps.toList.length := (List.getElem?_eq_some_iff.mp hj).1
      have h1 : (ps.toList.map (·.1))[j]? = some q.1 := by simp only [List.getElem?_map, hj, Option.map_some]
      rw [hps] at h1
      have h2 : q.1 = j := by
        rw [List.getElem?_range (by omega)] at h1
        exact (Option.some.inj h1).symm
      simp [h2]
  have hfill := Great.fill_whole hpos (ps.toList.map (fun q => a.eval q.2)) ((Array.range (n * tsize P e)).map (z.cells[· % z.cells.size]!)) hvs (by simp; simpa using congrArg (· * tsize P e) hlen)
  have h2 : ¬ (16777216 < n * tsize P e) := by omega
  by_cases h0 : n * tsize P e = 0
  · have hn0 : n = 0 := by
      rcases Nat.mul_eq_zero.mp h0 with h | h <;> omega
    subst hn0
    have hpe : ps.toList = [] := List.eq_nil_of_length_eq_zero hlen
    have hpe2 : ps = #[] := by simpa using hpe
    subst hpe2
    simp [Instr.buildSlice, run_underlying hu, u07 (w := w) hinf, newRow, Instr.fill, Array.range_zero']
  · simp only [Instr.buildSlice, Sem.run_bind, run_underlying hu, Result.andThen_ok, u07 (w := w) hinf]
    rw [hparts]
    simp [h2, h0, zeroValue, typeInfo, hinf, hzero, hfill, newRow]
theorem uaz {ps : Array (Nat × Operand)} {a : Act} {sz : Nat} (hpos : 0 < sz) (hi : Inv g H w) (ht : TOk x g env a.tmps) (hc : (ps.toList.map fun p => ev env p.2).all (fun v => v.cells.length == sz && v.cells.all isCell) = true) :
    (∀ v ∈ ps.toList.map (fun q => a.eval q.2), v.cells.size = sz) ∧ (((ps.toList.map fun p => ev env p.2).flatMap PV.cells).map stripC).length = ps.size * sz ∧ ((ps.toList.map (fun q => a.eval q.2)).flatMap fun v => v.cells.toList).length = ps.size * sz ∧
      ∀ (j : Nat) (c : PV) (v : Value), (((ps.toList.map fun p => ev env p.2).flatMap PV.cells).map stripC)[j]? = some c → ((ps.toList.map (fun q => a.eval q.2)).flatMap fun v => v.cells.toList)[j]? = some v → Rep g.io g.im c v ∧ isCell c = true ∧ stripC c = c := by
  have hpart : ∀ q ∈ ps.toList, (ev env q.2).cells.length = sz ∧ (ev env q.2).cells.all isCell = true := by
    intro q hq
    have := List.all_eq_true.mp hc _ (List.mem_map.mpr ⟨q, hq, rfl⟩)
    simpa using this
  have hcr : ∀ q ∈ ps.toList, (a.eval q.2).cells.size = sz ∧ ∀ (j : Nat) (c : PV) (u : Value), (ev env q.2).cells[j]? = some c → (a.eval q.2).cells[j]? = some u → Rep g.io g.im (stripC c) u ∧ isCell (stripC c) = true := by
    intro q hq
    obtain ⟨h1, h2⟩ := hpart q hq
    obtain ⟨c1, c2⟩ := u26 (ev_rep hi ht q.2) h2
    refine ⟨by omega, fun j c u hj hu => ?_⟩
    exact u22 c2 h2 j (stripC c) u (by simp only [List.getElem?_map, hj, Option.map_some]) hu
  have hvs : ∀ v ∈ ps.toList.map (fun q => a.eval q.2), v.cells.size = sz := by
    intro v hv
    obtain ⟨q, hq, rfl⟩ := List.mem_map.mp hv
    exact (hcr q hq).1
  obtain ⟨f1, f2⟩ := u52 hpos (ps.toList.map fun p => ev env p.2) (fun i y hy => by
    simp only [List.getElem?_map, Option.map_eq_some_iff] at hy
    obtain ⟨q, hq, rfl⟩ := hy
    exact (hpart q (List.mem_of_getElem? hq)).1)
  refine ⟨hvs, by rw [List.length_map, f1]; simp, by rw [u97 _ hvs]; simp, fun j c v hj hv => ?_⟩
  simp only [List.getElem?_map, Option.map_eq_some_iff] at hj
  obtain ⟨c0, hc0, rfl⟩ := hj
  obtain ⟨y, hy, hyc⟩ := f2 j c0 hc0
  simp only [List.getElem?_map, Option.map_eq_some_iff] at hy
  obtain ⟨q, hq, rfl⟩ := hy
  have hjs : j % sz < sz := Nat.mod_lt _ hpos
  have e : j / sz * sz + j % sz = j := by rw [Nat.mul_comm]; exact Nat.div_add_mod j sz
  have hg := uax (i := j / sz) (j := j % sz) hpos hvs hjs
  rw [e, hv] at hg
  simp only [List.getElem?_map, hq, Option.map_some, Option.bind_some] at hg
  have hr := (hcr q (List.mem_of_getElem? hq)).2 (j % sz) c0 v hyc hg.symm
  exact ⟨hr.1, hr.2, u1g c0⟩
theorem bsW_ok {t e : TypeId} {n : Nat} {ps : Array (Nat × Operand)} {a : Act} {out : Out PV} (d : Option Tmp) (hu : P.underlying t = some (.slice e)) (hpos : 0 < tsize P e) (hroom : n * tsize P e ≤ 16777216)
    (hz : ∃ i z, P.info? e = some i ∧ i.zero = some z ∧ z.cells.size = tsize P e) (hps : ps.toList.map (·.1) = List.range n)
    (h : bsW (tsize P e) (ps.toList.map fun p => ev env p.2) H = some out) (hi : Inv g H w) (ht : TOk x g env a.tmps) :
    ValOk P x g w env a.tmps d (Instr.buildSlice t n (ps.map fun (i, y) => (i, a.eval y))) out := by
  unfold bsW at h
  cases hc : (ps.toList.map fun p => ev env p.2).all (fun v => v.cells.length == tsize P e && v.cells.all isCell) with
  | false => rw [hc] at h; cases h
  | true =>
    rw [hc] at h
    simp only [cond_true, Option.some.injEq] at h
    subst h
    obtain ⟨l1, l2, l3, l4⟩ := uaz hpos hi ht hc
    have hrun := u9z (P := P) (w := w) (a := a) hu hpos hroom hz hps l1
    have hn : ps.size = n := by
      have := congrArg List.length hps
      simpa using this
    obtain ⟨r1, r2, r3⟩ := newWin (cs := ((ps.toList.map fun p => ev env p.2).flatMap PV.cells).map stripC) (sz := tsize P e) (n := n) (cap := n) hi (Pushed.alloc w (.cells ((ps.toList.map (fun q => a.eval q.2)).flatMap fun v => v.cells.toList).toArray e)) (by rw [List.size_toArray, l2, l3]; exact Nat.le_refl _) (fun j c v hc' hv => by
      obtain ⟨q1, q2, q3⟩ := l4 j c v hc' (by simpa using hv)
      exact ⟨.pure q1, q2, q1.lowB hi _⟩) (Nat.le_refl _) (by rw [List.size_toArray, l3, hn]; exact Nat.le_refl _)
    have e1 : (ps.toList.map fun p => ev env p.2).length = n := by simpa using hn
    rw [e1]
    exact ⟨_, _, _, hrun, r2, r1, ht.mono (u0s _ _ _ (.inl hi.z_new)) (fun L h => h), fun t' _ => rT r3 _⟩
theorem uj4 {cells : Array Value} {T : TypeId} (hi : Inv g H w) (hp : Pushed w w' (.cells cells T (0, 0))) :
    let g' : G := { g with im := fun b o => if b = w.heap.size then cells[o]? else g.im b o }
    Inv g' H w' ∧ Glob g w g' w' ∧ Grow (fun _ => True) g g' := by
  intro g'
  have him : ∀ b o v, g.im b o = some v → g'.im b o = some v := by
    intro b o v hv
    have := hi.lt_im hv
    show (if b = w.heap.size then _ else _) = _
    rw [if_neg (by omega)]
    exact hv
  have hne : ∀ b, b ≠ w.heap.size → g'.im b = g.im b := by
    intro b hb
    funext o
    show (if b = w.heap.size then _ else _) = _
    rw [if_neg hb]
  have hgrow : Grow (fun _ => True) g g' := ⟨IoLe.refl _, him, fun b M s _ hb => by
    have := hi.lt_ow hb
    exact ⟨hb, fun o ho => by rw [hne b (by omega)]; exact ho⟩, rfl⟩
  refine ⟨⟨hi.len, hi.nd, fun b o v hv => ?_, fun b M s hb => ?_, fun id b y hb hy => ?_, hi.gl.mono hgrow.im, fun b s hb => by have := hi.zl b s hb; rw [hp.size]; omega, hi.nn⟩, ⟨hp.os, hp.tape, hp.output, by rw [hp.size]; omega, fun b hb h1 h2 => ⟨h1, h2, hp.old hb⟩, hgrow.sub (fun _ _ => trivial)⟩, hgrow⟩
  · by_cases e : b = w.heap.size
    · subst e
      have hv2 : cells[o]? = some v := by
        have : (if w.heap.size = w.heap.size then cells[o]? else g.im w.heap.size o) = some v := hv
        rwa [if_pos rfl] at this
      simpa [World.cell?, hp.new] using hv2
    · rw [hne b e] at hv
      rw [hp.cell (hi.lt_im hv)]
      exact hi.im b o v hv
  · have hb : g.ow b = some (M, s) := hb
    rw [hp.old (hi.lt_ow hb)]
    exact hi.ow b M s hb
  · have hlt := hi.lt_ι hb
    exact (hi.box id b y hb hy).mono (hgrow.sub (fun _ _ => trivial)) (fun h => h) (fun h o => by rw [hne b (by omega)]; exact h o) (hp.old hlt) (by rw [hp.size]; omega)
theorem bsL_ok {t e : TypeId} {n : Nat} {ps : Array (Nat × Operand)} {a : Act} {out : Out PV} (d : Option Tmp) (hu : P.underlying t = some (.slice e)) (hpos : 0 < tsize P e) (hroom : n * tsize P e ≤ 16777216)
    (hz : ∃ i z, P.info? e = some i ∧ i.zero = some z ∧ z.cells.size = tsize P e) (hps : ps.toList.map (·.1) = List.range n)
    (h : bsL (tsize P e) (ps.toList.map fun p => ev env p.2) H = some out) (hi : Inv g H w) (ht : TOk x g env a.tmps) :
    ValOk P x g w env a.tmps d (Instr.buildSlice t n (ps.map fun (i, y) => (i, a.eval y))) out := by
  unfold bsL at h
  cases hc : (ps.toList.map fun p => ev env p.2).all (fun v => v.cells.length == tsize P e && v.cells.all isCell) with
  | false => rw [hc] at h; simp [M.fail] at h
  | true =>
    rw [hc] at h
    simp only [cond_true, M.pure, Option.some.injEq] at h
    subst h
    obtain ⟨l1, l2, l3, l4⟩ := uaz hpos hi ht hc
    have hrun := u9z (P := P) (w := w) (a := a) hu hpos hroom hz hps l1
    have hn : ps.size = n := by
      have := congrArg List.length hps
      simpa using this
    have e1 : (ps.toList.map fun p => ev env p.2).length = n := by simpa using hn
    rw [e1]
    generalize hcl : ((ps.toList.map (fun q => a.eval q.2)).flatMap fun v => v.cells.toList) = news at hrun l3 l4
    obtain ⟨r1, r2, r3⟩ := uj4 hi (Pushed.alloc w (.cells news.toArray e))
    have hg : ∀ (j : Nat) (c : PV), (((ps.toList.map fun p => ev env p.2).flatMap PV.cells).map stripC)[j]? = some c → ∃ v, news[j]? = some v := fun j c hj => by
      have := (List.getElem?_eq_some_iff.mp hj).1
      exact ⟨news[j]'(by omega), List.getElem?_eq_getElem (by omega)⟩
    refine ⟨_, _, _, hrun, r2, r1, ht.mono r3 (fun _ _ => trivial), fun t' _ => rT (.lit (fun j => news.getD j undef) (Nat.le_refl _) (by rw [l2, hn]) (fun j c hj => ?_) (fun j c hj => ?_) (fun j c hj => ?_)) _⟩
    · obtain ⟨v, hv⟩ := hg j c hj
      exact (l4 j c v hj hv).2.1
    · obtain ⟨v, hv⟩ := hg j c hj
      show (if w.heap.size = w.heap.size then news.toArray[0 + j]? else _) = _
      rw [if_pos rfl]
      simp [hv]
    · obtain ⟨v, hv⟩ := hg j c hj
      have : news.getD j undef = v := by simp [List.getD, hv]
      rw [this]
      exact (l4 j c v hj hv).1.mono (IoLe.refl _) r3.im
theorem uae (a : Option Nat) (sz : Nat) : ∀ (n : Nat) (cs : List PV), (u28 a sz n cs).length = n
  | 0, _ => rfl
  | n + 1, cs => by simp [u28, uae a sz n]
theorem uc0 {a : Option Nat} {sz : Nat} (ha : a.getD 1 = sz) : ∀ (n : Nat) (cs : List PV), n * sz ≤ cs.length → (∀ (j : Nat) (c : PV), cs[j]? = some c → isCell c = true) →
    ∀ (i : Nat) (y : PV), (u28 a sz n cs)[i]? = some y → y.cells.length = sz ∧ ∀ (j : Nat) (c : PV), y.cells[j]? = some c → cs[i * sz + j]? = some c
  | 0, _, _, _, i, y, h => by simp [u28] at h
  | n + 1, cs, hl, hc, i, y, h => by
    rw [Nat.add_mul, Nat.one_mul] at hl
    cases i with
    | zero =>
      simp only [u28, List.getElem?_cons_zero, Option.some.injEq] at h
      cases a with
      | some k =>
        dsimp only at h
        subst h
        refine ⟨by simp [PV.cells]; omega, fun j c hj => ?_⟩
        simp only [PV.cells, List.getElem?_take] at hj
        split at hj
        · simpa using hj
        · cases hj
      | none =>
        dsimp only at h
        obtain rfl : sz = 1 := by simpa using ha.symm
        cases cs with
        | nil => simp at hl
        | cons q r =>
          simp only [List.headD_cons] at h
          subst h
          have hq := hc 0 q rfl
          have e : q.cells = [q] := by cases q <;> first | rfl | simp [isCell] at hq
          refine ⟨by rw [e]; rfl, fun j c hj => ?_⟩
          rw [e] at hj
          have hj0 : j = 0 := by
            have := (List.getElem?_eq_some_iff.mp hj).1
            simpa using this
          subst hj0
          simpa using hj
    | succ i =>
      simp only [u28, List.getElem?_cons_succ] at h
      obtain ⟨h1, h2⟩ := uc0 ha n (cs.drop sz) (by simp; omega) (fun j c hj => hc _ c (by rw [List.getElem?_drop] at hj; exact hj)) i y h
      refine ⟨h1, fun j c hj => ?_⟩
      have := h2 j c hj
      rw [List.getElem?_drop] at this
      rw [← this]
      congr 1
      rw [Nat.add_mul, Nat.one_mul]
      omega
end Go.Proofs.YtjcffopjohkmaaaDoor.Pi
namespace Go.Proofs.YtjcffopjohkmaaaDoor.Pi
variable {P : Program} {g : G} {L L' : Owner} {w w' : World} {H : Heap} {x : Nat} {env : Env}
theorem ubm {id off sz n : Nat} {v : Value} {cs : List PV} (hi : Inv g H w) (hy : H[id]? = some (.cells cs)) (hq : RepT g L (.win id off sz n) v) (hfit : off + n * sz ≤ cs.length) :
    ∃ b off' cap, ∃ vs : Array Value, ∃ T, v = .slice (some ⟨b, off', none⟩) n cap ∧ w.heap[b]? = some (.cells vs T (0, 0)) ∧ (n = 0 ∨ off' = off) ∧ off' + n * sz ≤ vs.size ∧ n ≤ cap ∧
      ∀ (j : Nat) (c : PV), j < n * sz → cs[off + j]? = some c → ∃ u, vs[off' + j]? = some u ∧ RepS g (.cell id (off + j)) c u ∧ isCell c = true := by
  obtain ⟨b, off', cap, s, hb, hz, rfl, ho, hn, hs⟩ := hq.win
  obtain ⟨b', hb', h1, h2, vs, T, h3, h4, h5⟩ := hi.boxAt hy
  obtain rfl : b = b' := by rw [hb] at hb'; exact Option.some.inj hb'
  have h40 := h4.1
  have hzs : s = vs.size := by
    have := h4.2
    rw [hz] at this
    exact Option.some.inj this
  have hle : n * sz ≤ cap * sz := Nat.mul_le_mul_right _ hn
  have ho2 : n = 0 ∨ off' = off := by
    rcases ho with h | h
    · exact .inl (by omega)
    · exact .inr h
  refine ⟨b, off', cap, vs, T, rfl, h3, ho2, by omega, hn, fun j c hj hc => ?_⟩
  have e : off' = off := by
    rcases ho2 with h | h
    · subst h; simp at hj
    · exact h
  subst e
  have hlt : off' + j < vs.size := by have := (List.getElem?_eq_some_iff.mp hc).1; omega
  obtain ⟨r1, r2, _⟩ := h5 _ c vs[off' + j] hc (Array.getElem?_eq_getElem hlt)
  exact ⟨_, Array.getElem?_eq_getElem hlt, r1, r2⟩
theorem ufs {p : PV} (h : p.flat = true) (hc : isCell p = true) : stripC p = p := by
  cases p <;> first | rfl | skip
  rename_i o z sz xs
  cases o
  · rfl
  · simp [PV.flat] at h
theorem apW_ok {t u ty e : TypeId} {a : Act} {A B : Operand} {out : Out PV} {own : Bool} (d : Option Tmp) (hd : ∀ t, d = some t → own = true) (ht : P.underlying t = some (.slice e)) (hu : u2w P u) (hl : listOk P e = true)
    (h : apW own (tagg P e) (tsize P e) (tbytes P e) (ev env A) (ev env B) H = some out) (hi : Inv g H w) (hT : TOk x g env a.tmps) :
    ValOk P x g w (giveUp env (srcO A)) a.tmps d (Builtin.append_ #[t, u] ty #[a.eval A, a.eval B]) out := by
  obtain ⟨hk, hpos, hag, i, z, hinf, hz, hzs, his, hib⟩ := u13 hl
  have rB := ev_rep hi hT B
  unfold apW at h
  split at h
  · rename_i id off sy n hB
    rw [hB] at rB
    cases hy : H[id]? with
    | none => rw [hy] at h; cases h
    | some y =>
      rw [hy] at h
      cases y with
      | iter _ _ => cases h
      | dead => cases h
      | cells cs =>
        dsimp only at h
        cases hc : (sy == tsize P e && (decide (off + n * tsize P e ≤ cs.length) && (u28 (tagg P e) (tsize P e) n ((cs.drop off).take (n * tsize P e))).all (u0a (tagg P e)))) with
        | false => rw [hc] at h; cases h
        | true =>
          rw [hc] at h
          simp only [cond_true] at h
          simp only [Bool.and_eq_true, beq_iff_eq, decide_eq_true_eq] at hc
          obtain ⟨rfl, hfit, hall⟩ := hc
          obtain ⟨b, off', cap, vs, T, hv, h3, ho, hfv, hncap, hcells⟩ := ubm hi hy rB hfit
          refine ap_gen d hd ht hu hl (fun ys htl => ?_) h hi hT
          have hys : ys = u28 (tagg P e) (tsize P e) n ((cs.drop off).take (n * tsize P e)) := by
            simp only [tail, Bool.false_or, beq_self_eq_true, cond_true, Option.some.injEq] at htl
            exact htl.symm
          subst hys
          rw [uae]
          have hcut : ∀ (j : Nat) (c : PV), ((cs.drop off).take (n * tsize P e))[j]? = some c → j < n * tsize P e ∧ cs[off + j]? = some c := by
            intro j c hj
            simp only [List.getElem?_take, List.getElem?_drop] at hj
            split at hj
            · rename_i h; exact ⟨h, hj⟩
            · cases hj
          have hget := uc0 hag n ((cs.drop off).take (n * tsize P e)) (by simp; omega) (fun j c hj => by
            obtain ⟨h1, h2⟩ := hcut j c hj
            obtain ⟨_, _, _, h4⟩ := hcells j c h1 h2
            exact h4)
          refine ⟨(vs.toList.drop off').take (n * tsize P e), ?_, fun i y hy' => (hget i y hy').1, fun i y j c hy' hj => ?_⟩
          · rw [hv]
            refine ucy h3 hfv (fun j v hj hv' => ?_)
            have e : off' = off := by
              rcases ho with h | h
              · subst h; simp at hj
              · exact h
            subst e
            have hjc : off' + j < cs.length := by omega
            obtain ⟨u, hu', hr, hcell⟩ := hcells j cs[off' + j] hj (List.getElem?_eq_getElem hjc)
            rw [hv'] at hu'
            cases hu'
            exact u1o hr hcell
          · obtain ⟨h1, h2⟩ := hcut _ c ((hget i y hy').2 j c hj)
            obtain ⟨u, hu', hr, hcell⟩ := hcells _ c h1 h2
            refine ⟨u, ?_, ?_⟩
            · simp only [List.getElem?_take, List.getElem?_drop, if_pos h1]
              simpa using hu'
            · have hfe := List.all_eq_true.mp hall y (List.mem_of_getElem? hy')
              have hflat : c.flat = true := by
                unfold u0a at hfe
                simp only [Bool.and_eq_true] at hfe
                obtain ⟨f1, f2⟩ := hfe
                cases y with
                | agg l =>
                  have f3 : flatL l = true := by simpa [PV.flat] using f1
                  exact u73 f3 j c hj
                | tup _ => simp [PV.flat] at f1
                | undef => simp [PV.flat] at f1
                | aggo _ => simp [PV.flat] at f1
                | _ =>
                  have hj0 : j = 0 := by
                    have := (List.getElem?_eq_some_iff.mp hj).1
                    simpa [PV.cells] using this
                  subst hj0
                  simp [PV.cells] at hj
                  subst hj
                  exact f1
              have hrep := hr.toRep (by cases c <;> first | rfl | simp [isCell] at hcell)
              rw [ufs hflat hcell] at hrep
              exact u96 c hflat hrep hcell
  · exact ap_ok d hd ht hu hl h hi hT
theorem apL_ok {t u ty e : TypeId} {a : Act} {A B : Operand} {out : Out PV} {own nw : Bool} (d : Option Tmp) (hd : ∀ t, d = some t → own = true) (ht : P.underlying t = some (.slice e)) (hu : u2w P u) (hl : listOk P e = true)
    (h : apL own (tagg P e) (tsize P e) (tbytes P e) nw (ev env A) (ev env B) H = some out) (hi : Inv g H w) (hT : TOk x g env a.tmps) :
    ValOk P x g w (giveUp env (srcO A)) a.tmps d (Builtin.append_ #[t, u] ty #[a.eval A, a.eval B]) out := by
  have viaA : apW own (tagg P e) (tsize P e) (tbytes P e) (ev env A) (ev env B) H = some out → ValOk P x g w (giveUp env (srcO A)) a.tmps d (Builtin.append_ #[t, u] ty #[a.eval A, a.eval B]) out := fun h => apW_ok d hd ht hu hl h hi hT
  have viaP : pushW (tsize P e) (tbytes P e) (ev env A) (ev env B) H = some out → ValOk P x g w (giveUp env (srcO A)) a.tmps d (Builtin.append_ #[t, u] ty #[a.eval A, a.eval B]) out := fun h => ukb d ht hu hl h hi hT
  generalize ev env A = pa at h viaA viaP
  cases pa with
  | win _ _ _ _ => exact viaP h
  | slice o z sx xs =>
    cases z
    · exact viaA h
    · cases nw
      · exact viaA h
      · exact viaP h
  | _ => exact viaA h
theorem cvX_ok {s t e : TypeId} {p : PV} {u : Value} {out : Out PV} {own : Bool} (hs : P.underlying s = some (.slice e)) (he : P.underlying e = some (.int .u8)) (ht : P.underlying t = some .string) (h : cvX own p H = some out)
    (hi : Inv g H w) (hp : RepT g L p u) : PureRes P g w H (convert s t u) out := by
  unfold cvX at h
  split at h
  · rename_i id off sz n
    unfold cvW at h
    dsimp only at h
    cases hy : H[id]? with
    | none => rw [hy] at h; cases h
    | some y =>
      rw [hy] at h
      cases y with
      | iter _ _ => cases h
      | dead => cases h
      | cells cs =>
        dsimp only at h
        cases hc : (sz == 1 && decide (off + n ≤ cs.length)) with
        | false => rw [hc] at h; cases h
        | true =>
          rw [hc] at h
          simp only [cond_true] at h
          simp only [Bool.and_eq_true, beq_iff_eq, decide_eq_true_eq] at hc
          obtain ⟨rfl, hfit⟩ := hc
          cases hb : u2h ((cs.drop off).take n) with
          | none => rw [hb] at h; cases h
          | some l =>
            rw [hb] at h
            obtain ⟨ns, n1, n2, n3⟩ := u39 hb
            obtain ⟨b, off', cap, vs, T, rfl, h3, ho, hfv, hncap, hcells⟩ := ubm hi hy hp (by omega)
            have hlen : ((cs.drop off).take n).length = n := by simp; omega
            refine u06 (v := .str ⟨l.toArray⟩) (cv := .string ⟨l.toArray⟩) h ?_ (fun L => rStr _ L)
            have hcell : ∀ j, j < ns.length → w.cell? ((⟨b, off', none⟩ : Addr).add j) = some (.int .u8 (ns.getD j 0)) := by
              intro j hj
              have hjn : j < n := by omega
              have hjc : off + j < cs.length := by omega
              have hy' : ((cs.drop off).take n)[j]? = some cs[off + j] := by
                simp [List.getElem?_take, hjn]
              obtain ⟨m, hm, hym⟩ := n3 j _ hy'
              obtain ⟨u, hu, hr, _⟩ := hcells j cs[off + j] (by omega) (List.getElem?_eq_getElem hjc)
              rw [hym] at hr
              obtain rfl := hr.int
              rw [u60, u2y h3, hu]
              simp [hm]
            have := run_convert_bytes_arg (P := P) (w := w) s e hs he b off' n cap ns (by rw [n1, hlen]) (fun i hi2 => by
              rw [← u60]
              exact hcell i (by omega)) t ht
            rw [this]
            simp [strOfNums, n2]
  · exact u4t hs he ht h hi hp
end Go.Proofs.YtjcffopjohkmaaaDoor.Pi
namespace Go.Proofs.YtjcffopjohkmaaaDoor.Pi
variable {P : Program} {g : G} {L L' : Owner} {w w' : World} {H : Heap} {x : Nat} {env : Env}
theorem ujb {t : TypeId} {out : Out PV} (h : al (tzero P t).cells H = some out) : ∃ i z, P.info? t = some i ∧ i.zero = some z ∧ tzero P t = ofV z := by
  unfold tzero at h ⊢
  cases hzz : (P.info? t).bind (·.zero) with
  | none => rw [hzz] at h; simp [al, PV.cells, isCell] at h
  | some z =>
    obtain ⟨i, hi, hiz⟩ := Option.bind_eq_some_iff.mp hzz
    exact ⟨i, z, hi, hiz, by simp⟩
theorem u00 {α : Type} {out : Out α} (h : (M.fail : M α) H = some out) : False := by simp [M.fail] at h
theorem uio {C : CallT} {es : Bool} {rc : Option (Option PV)} {ops : Array Oper} {dst : Option Tmp} {t : TypeId} {A X : Operand} {ty : TypeId} {pos : String} {after : Array Edge} {guard : Option (Nat × Bool)} :
    op0 P C es rc ops env ⟨dst, .store t A X, ty, pos, after, guard⟩ = guardM (known P t) (stG es (tsize P t) (isTmpO X) (ev env A) (ev env X)) := by cases X <;> rfl
set_option maxHeartbeats 1000000 in
theorem op0_ok {C : CallT} {es : Bool} {rc : Option (Option PV)} {ops : Array Oper} {o : Oper} {a : Act} {out : Out PV} (hN : es = true → g.N = none) (hn : u3h o.op = true) (h : op0 P C es rc ops env o H = some out) (hi : Inv g H w) (hT : TOk x g env a.tmps) :
    OpRes x g w (giveUp env (given ops o)) a.tmps o.dst ((execOp a.eval o).run P w) out := by
  obtain ⟨dst, op, ty, pos, after, guard⟩ := o
  cases op with
  | move X =>
    have e : given ops ⟨dst, .move X, ty, pos, after, guard⟩ = srcMv (moves ops ⟨dst, .move X, ty, pos, after, guard⟩) X := by cases X <;> rfl
    rw [e]
    exact uhw hi hT h
  | assign X =>
    have e : given ops ⟨dst, .assign X, ty, pos, after, guard⟩ = srcMv (moves ops ⟨dst, .assign X, ty, pos, after, guard⟩) X := by cases X <;> rfl
    rw [e]
    exact uhw hi hT h
  | pick c p q =>
    obtain ⟨v, cv, rfl, e2, e3⟩ := uks (P := P) (w := w) h (ev_rep hi hT c) (ev_rep hi hT p) (ev_rep hi hT q)
    refine ⟨cv, w, g, .inl ?_, Glob.refl _ _, hi, hT, fun t _ => e3 _⟩
    simp only [execOp, Sem.run_bind, Sem.run_pure] at e2 ⊢
    generalize hb : (asBool (a.eval c)).run P w = r at e2 ⊢
    cases r with
    | ok b w2 => simp only [Result.andThen_ok, Result.ok.injEq] at e2 ⊢; exact ⟨by rw [e2.1], e2.2⟩
    | halt q w2 => simp [Result.andThen] at e2
  | alloc t =>
    have h : (bif decide (200 < tsize P t) then alZ P t else al (tzero P t).cells) H = some out := h
    cases hbig : decide (200 < tsize P t) with
    | true =>
      rw [hbig] at h
      exact (alZ_ok dst h hi hT).op
    | false =>
    rw [hbig] at h
    have h : al (tzero P t).cells H = some out := h
    obtain ⟨i, z, h1, h2, h3⟩ := ujb h
    rw [h3] at h
    exact (al_ok dst h1 h2 h hi hT).op
  | box t X =>
    have h : (bif fromB ops X then bxO (tsize P t) (ev env X) else bx (tsize P t) (ev env X)) H = some out := h
    cases hfb : fromB ops X with
    | true =>
      rw [hfb] at h
      cases X with
      | tmp s =>
        have e : given ops ⟨dst, .box t (.tmp s), ty, pos, after, guard⟩ = some (s, none) := by
          show (bif fromB ops (.tmp s) then some (s, none) else none) = _
          rw [hfb]; rfl
        rw [e]
        exact (bxO_ok dst h hi hT).op
      | _ => simp [fromB] at hfb
    | false =>
      rw [hfb] at h
      have e : given ops ⟨dst, .box t X, ty, pos, after, guard⟩ = none := by
        cases X with
        | tmp s =>
          show (bif fromB ops (.tmp s) then some (s, none) else none) = _
          rw [hfb]; rfl
        | _ => rfl
      rw [e]
      exact (bx_ok dst h hi hT (ev_rep hi hT X)).op
  | build t ps =>
    unfold op0 at h
    dsimp only at h
    cases hu : P.underlying t with
    | none => rw [hu] at h; exact (u00 (H := H) h).elim
    | some d =>
      rw [hu] at h
      cases d <;> first | (exact (u00 (H := H) h).elim) | skip
      · dsimp only at h
        obtain ⟨h1, h2⟩ := u02 h
        simp only [Bool.and_eq_true] at h1
        have e : given ops ⟨dst, .build t ps, ty, pos, after, guard⟩ = none := by
          show (handB ops ⟨dst, .build t ps, ty, pos, after, guard⟩).map _ = _
          have := h1.2.2
          simp only [Option.isNone_iff_eq_none] at this
          rw [this]; rfl
        rw [e]
        exact ((ujs hu h1.1 h1.2.1 h2 hT hi).valOk hi hT dst).op
      · dsimp only at h
        obtain ⟨h1, h2⟩ := u02 h
        simp only [Bool.and_eq_true] at h1
        rename_i fs
        cases hh : handB ops ⟨dst, .build t ps, ty, pos, after, guard⟩ with
        | none =>
          rw [hh] at h2
          have e : given ops ⟨dst, .build t ps, ty, pos, after, guard⟩ = none := by
            show (handB ops ⟨dst, .build t ps, ty, pos, after, guard⟩).map _ = _
            rw [hh]; rfl
          rw [e]
          exact ((ua1 hu h1.1 h1.2 h2 hT hi).valOk hi hT dst).op
        | some is =>
          obtain ⟨i, s⟩ := is
          rw [hh] at h2
          have e : given ops ⟨dst, .build t ps, ty, pos, after, guard⟩ = some (s, none) := by
            show (handB ops ⟨dst, .build t ps, ty, pos, after, guard⟩).map _ = _
            rw [hh]; rfl
          rw [e]
          dsimp only at h2
          have hps : ps.toList = [(i, .tmp s)] := by
            unfold handB at hh
            dsimp only at hh
            cases hb : boxedB ops dst with
            | false => rw [hb] at hh; cases hh
            | true =>
              rw [hb] at hh
              unfold single at hh
              dsimp only [cond_true] at hh
              split at hh
              · rename_i hl
                simp only [Option.some.injEq, Prod.mk.injEq] at hh
                rw [hl, hh.1, hh.2]
              · cases hh
          cases hf : fs[i]? with
          | none => rw [hf] at h2; exact (u00 (H := H) h2).elim
          | some f =>
            rw [hf] at h2
            exact (uft (d := dst) hps hf hu h1.1 h1.2 h2 hi hT).op
  | buildSlice t n ps =>
    unfold op0 at h
    dsimp only at h
    cases hu : P.underlying t with
    | none => rw [hu] at h; exact (u00 (H := H) h).elim
    | some d =>
      rw [hu] at h
      cases d <;> first | (exact (u00 (H := H) h).elim) | skip
      dsimp only at h
      obtain ⟨h1, h2⟩ := u02 h
      simp only [Bool.and_eq_true, beq_iff_eq, decide_eq_true_eq] at h1
      obtain ⟨q1, q2, q3, i, z, q4, q5, q6, q7, q8⟩ := u13 h1.2.2
      exact (bs_ok (own := dst.isSome) dst (fun t ht => by rw [ht]; rfl) hu q1 q2 h1.2.1 q3 ⟨i, z, q4, q5, q6⟩ h1.1 h2 hi hT).op
  | insert => exact (u00 (H := H) h).elim
  | load t A =>
    have h : guardM (known P t) (ld (tagg P t) (moves ops ⟨dst, .load t A, ty, pos, after, guard⟩) (ev env A)) H = some out := h
    obtain ⟨h1, h2⟩ := u02 h
    cases hm : moves ops ⟨dst, .load t A, ty, pos, after, guard⟩ with
    | false =>
      rw [hm] at h2
      exact ((u9j h1 h2 hi (ev_rep hi hT A)).valOk hi hT dst).op
    | true =>
      rw [hm] at h2
      cases dst with
      | none => simp [moves] at hm
      | some d => exact (ld_mv d h1 h2 hi hT (ev_rep hi hT A)).op
  | store t A X =>
    have e : given ops ⟨dst, .store t A X, ty, pos, after, guard⟩ = srcO X := by cases X <;> rfl
    rw [uio] at h
    obtain ⟨h1, h2⟩ := u02 h
    rw [e]
    exact (st_ok hN h1 h2 hi hT).op
  | ready => exact (u00 (H := H) h).elim
  | waits => exact (u00 (H := H) h).elim
  | nilCheck X =>
    rcases nc_ok (g := g) h (ev_rep hi hT X) with ⟨rfl, hr, n1, n2, n3, n4⟩ | ⟨rfl, hu⟩
    · refine ⟨a.eval X, w, g, .inl ?_, Glob.refl _ _, hi, hT, fun t _ => hr _⟩
      show ((match a.eval X with | .pointer none | .nilIface | .nilFunc => _ | .func (.method name) first captured => _ | y => _) : Sem Next).run P w = _
      split
      · rename_i hh; exact absurd hh n1
      · rename_i hh; exact absurd hh n2
      · rename_i hh; exact absurd hh n3
      · rename_i hh; exact absurd hh (n4 _ _ _)
      · rfl
    · refine ⟨_, w, g, ?_, Glob.refl _ _, hi, Grow.refl _ _, u5l⟩
      have hx : (execOp a.eval ⟨dst, .nilCheck X, ty, pos, after, guard⟩) = runtimePanic .nilDeref := by
        rcases hu with hu | hu | hu <;> simp only [execOp, hu]
      rw [hx]
      exact u5e
  | binOp b t X Y t2 => exact ((bi_ok (X := X) (Y := Y) h (ev_rep hi hT X) (ev_rep hi hT Y)).valOk hi hT dst).op
  | unOp u t X => exact ((un_ok h (ev_rep hi hT X)).valOk hi hT dst).op
  | convert s t X =>
    have h : cv (cvKind P s t) dst.isSome (ev env X) H = some out := h
    have rX := ev_rep hi hT X
    have key : ValOk P x g w env a.tmps dst (convert s t (a.eval X)) out := by
      unfold cvKind at h
      cases hs : P.underlying s with
      | none => rw [hs] at h; unfold cv at h; exact (u00 (H := H) h).elim
      | some ds =>
        cases ht : P.underlying t with
        | none =>
          rw [hs, ht] at h
          cases ds <;> (unfold cv at h; exact (u00 (H := H) h).elim)
        | some dt =>
          rw [hs, ht] at h
          cases ds <;> first | (cases dt <;> (unfold cv at h; exact (u00 (H := H) h).elim)) | skip
          · -- of a number
            cases dt <;> first | (unfold cv at h; exact (u00 (H := H) h).elim) | skip
            · exact (uki hs ht h rX).valOk hi hT dst
            · exact (ua8 hs ht h rX).valOk hi hT dst
          · -- of a text
            cases dt <;> first | (unfold cv at h; exact (u00 (H := H) h).elim) | skip
            · exact (uhc hs ht h rX).valOk hi hT dst
            · rename_i e
              dsimp only at h
              cases he : P.underlying e with
              | none => rw [he] at h; unfold cv at h; exact (u00 (H := H) h).elim
              | some de =>
                rw [he] at h
                cases de <;> first | (unfold cv at h; exact (u00 (H := H) h).elim) | skip
                rename_i k
                cases k <;> first | (unfold cv at h; exact (u00 (H := H) h).elim) | skip
                exact u91 dst hs ht he h hi hT rX
          · -- of a list
            rename_i e
            cases dt <;> first | (unfold cv at h; exact (u00 (H := H) h).elim) | skip
            dsimp only at h
            cases he : P.underlying e with
            | none => rw [he] at h; unfold cv at h; exact (u00 (H := H) h).elim
            | some de =>
              rw [he] at h
              cases de <;> first | (unfold cv at h; exact (u00 (H := H) h).elim) | skip
              rename_i k
              cases k <;> first | (unfold cv at h; exact (u00 (H := H) h).elim) | skip
              exact (u4t hs he ht h hi rX).valOk hi hT dst
    exact key.op
  | sliceToArrayPointer => exact (u00 (H := H) h).elim
  | makeInterface t X =>
    have h : guardM (u61 P t) (mi t (ev env X)) H = some out := h
    obtain ⟨h1, h2⟩ := u02 h
    exact ((mi_ok h1 h2 (ev_rep hi hT X)).valOk hi hT dst).op
  | makeFunc f first caps =>
    cases f with
    | func f =>
      have h : mf f (first.toList.map (ev env)) (caps.toList.map (ev env)) H = some out := h
      exact ((mf_ok (by simp) (by simp) (udn hi hT first) (udn hi hT caps) h).valOk hi hT dst).op
    | _ => exact (u00 (H := H) h).elim
  | makeMap => exact (u00 (H := H) h).elim
  | makeChan => exact (u00 (H := H) h).elim
  | makeSlice t l c =>
    unfold op0 at h
    dsimp only at h
    cases hu : P.underlying t with
    | none => rw [hu] at h; exact (u00 (H := H) h).elim
    | some d =>
      rw [hu] at h
      cases d <;> first | (exact (u00 (H := H) h).elim) | skip
      dsimp only at h
      obtain ⟨h1, h2⟩ := u02 h
      exact (mk_ok (own := dst.isSome) dst (fun t ht => by rw [ht]; rfl) hu h1 h2 hi hT (ev_rep hi hT l) (ev_rep hi hT c)).op
  | slice t X lo hi' mx =>
    cases mx with
    | some m =>
      unfold op0 at h
      dsimp only at h
      obtain ⟨a1, a2⟩ := ud0 hi hT lo
      cases hu : P.underlying t with
      | none => rw [hu] at h; exact (u00 (H := H) h).elim
      | some d =>
        rw [hu] at h
        cases d <;> first | (exact (u00 (H := H) h).elim) | skip
        cases hi' with
        | none => exact (u00 (H := H) h).elim
        | some hi' =>
        dsimp only at h
        obtain ⟨h1, h2⟩ := u02 h
        exact ((ufe hu h1 h2 (ev_rep hi hT X) a1 a2 (ev_rep hi hT hi') (ev_rep hi hT m)).valOk hi hT dst).op
    | none =>
      unfold op0 at h
      dsimp only at h
      obtain ⟨a1, a2⟩ := ud0 hi hT lo
      obtain ⟨b1, b2⟩ := ud0 hi hT hi'
      cases hu : P.underlying t with
      | none => rw [hu] at h; exact (u00 (H := H) h).elim
      | some d =>
        rw [hu] at h
        cases d <;> first | (exact (u00 (H := H) h).elim) | skip
        · exact ((uim hu h (ev_rep hi hT X) a1 a2 b1 b2).valOk hi hT dst).op
        · dsimp only at h
          obtain ⟨h1, h2⟩ := u02 h
          exact ((ugs hu h1 h2 (ev_rep hi hT X) a1 a2 b1 b2).valOk hi hT dst).op
        · rename_i n e
          dsimp only at h
          obtain ⟨h1, h2⟩ := u02 h
          simp only [Bool.and_eq_true, beq_iff_eq] at h1
          obtain ⟨k1, k2⟩ := h1
          cases lo with
          | some q => exact (uld dst hu k2 k1 h2 hi hT (ev_rep hi hT X) b1 b2 a1).op
          | none => exact (slA_ok dst (fun t ht => by rw [ht]; rfl) hu k2 k1 h2 hi hT (ev_rep hi hT X) b1 b2).op
  | fieldAddr t X f =>
    unfold op0 at h
    dsimp only at h
    cases hu : P.underlying t with
    | none => rw [hu] at h; exact (u00 (H := H) h).elim
    | some d =>
      rw [hu] at h
      cases d <;> first | (exact (u00 (H := H) h).elim) | skip
      rename_i fs
      dsimp only at h
      cases hf : fs[f]? with
      | none => rw [hf] at h; exact (u00 (H := H) h).elim
      | some fl =>
        rw [hf] at h
        dsimp only at h
        obtain ⟨h1, h2⟩ := u02 h
        simp only [Bool.and_eq_true, Bool.not_eq_true'] at h1
        exact ((ua9 hu hf h1.1 h1.2 h2 (ev_rep hi hT X)).valOk hi hT dst).op
  | field t X f =>
    unfold op0 at h
    dsimp only at h
    cases hu : P.underlying t with
    | none => rw [hu] at h; exact (u00 (H := H) h).elim
    | some d =>
      rw [hu] at h
      cases d <;> first | (exact (u00 (H := H) h).elim) | skip
      rename_i fs
      dsimp only at h
      cases hf : fs[f]? with
      | none => rw [hf] at h; exact (u00 (H := H) h).elim
      | some fl =>
        rw [hf] at h
        dsimp only at h
        obtain ⟨h1, h2⟩ := u02 h
        exact ((ujj hu hf h1 h2 (ev_rep hi hT X)).valOk hi hT dst).op
  | indexAddr t X i =>
    unfold op0 at h
    dsimp only at h
    cases hu : P.underlying t with
    | none => rw [hu] at h; exact (u00 (H := H) h).elim
    | some d =>
      rw [hu] at h
      cases d <;> first | (exact (u00 (H := H) h).elim) | skip
      all_goals
        dsimp only at h
        obtain ⟨h1, h2⟩ := u02 h
      · exact ((u9u hu h1 h2 (ev_rep hi hT X) (ev_rep hi hT i)).valOk hi hT dst).op
      · exact ((u92 hu h1 h2 (ev_rep hi hT X) (ev_rep hi hT i)).valOk hi hT dst).op
  | index t X i =>
    unfold op0 at h
    dsimp only at h
    cases hu : P.underlying t with
    | none => rw [hu] at h; exact (u00 (H := H) h).elim
    | some d =>
      rw [hu] at h
      cases d <;> first | (exact (u00 (H := H) h).elim) | skip
      · exact ((uho hu h (ev_rep hi hT X) (ev_rep hi hT i)).valOk hi hT dst).op
      · dsimp only at h
        obtain ⟨h1, h2⟩ := u02 h
        exact ((ug1 hu h1 h2 (ev_rep hi hT X) (ev_rep hi hT i)).valOk hi hT dst).op
  | lookup => exact (u00 (H := H) h).elim
  | mapUpdate => exact (u00 (H := H) h).elim
  | mapEntry => exact (u00 (H := H) h).elim
  | entryStore => exact (u00 (H := H) h).elim
  | range t X =>
    unfold op0 at h
    dsimp only at h
    cases hu : P.underlying t with
    | none => rw [hu] at h; exact (u00 (H := H) h).elim
    | some d =>
      rw [hu] at h
      cases d <;> first | (exact (u00 (H := H) h).elim) | skip
      exact (rg_ok dst hu h hi hT (ev_rep hi hT X)).op
  | next X s =>
    cases s with
    | false => exact (u00 (H := H) h).elim
    | true => exact (nx_ok dst h hi hT (ev_rep hi hT X)).op
  | entry => exact (u00 (H := H) h).elim
  | typeAssert X xt t ok =>
    unfold op0 at h
    dsimp only at h
    cases hu : P.underlying t with
    | none => rw [hu] at h; exact (u00 (H := H) h).elim
    | some d =>
      rw [hu] at h
      have key : (∀ ms, d ≠ .interface ms) → guardM (isVal (tzero P t)) (ta t (tzero P t) ok (ev env X)) H = some out → OpRes x g w env a.tmps dst ((execOp a.eval ⟨dst, .typeAssert X xt t ok, ty, pos, after, guard⟩).run P w) out := by
        intro hd h
        obtain ⟨h1, h2⟩ := u02 h
        obtain ⟨i, z, hi1, hz, he⟩ := u3u h1
        have hr : Rep g.io g.im (tzero P t) z := by
          rw [he] at h1 ⊢
          have := u6x h1 (u51 (g := g) z .res)
          have e : stripC (ofV z) = ofV z := by
            generalize hq : ofV z = q
            cases q <;> first | rfl | skip
            rename_i o zz sz xs
            unfold ofV at hq
            split at hq
            · split at hq <;> cases hq
            · rename_i f aa bb
              cases hab : (aa.size == 0 && bb.size == 0) <;> rw [hab] at hq <;> simp at hq
            · unfold ofVC at hq
              split at hq <;> simp at hq
              obtain ⟨rfl, _⟩ := hq
              rfl
          rwa [e] at this
        exact ((ta_ok hu hd hi1 hz hr h2 (ev_rep hi hT X)).valOk hi hT dst).op
      cases d <;> first | (exact key (by simp) h) | (exact (u00 (H := H) h).elim)
  | extract X i =>
    have e : given ops ⟨dst, .extract X i, ty, pos, after, guard⟩ = srcEx i X := by cases X <;> rfl
    rw [e]
    exact ufi hi hT h
  | call c =>
    obtain ⟨callee, args, tys⟩ := c
    cases callee with
    | value f => exact absurd hn (by simp [u3h])
    | invoke r m => exact (u00 (H := H) h).elim
    | builtin b =>
      by_cases hb : b = .recover
      · subst hb
        exact absurd hn (by simp [u3h])
      have h2 : u4w P dst.isSome b tys (args.toList.map (ev env)) H = some out := by
        cases b <;> first | exact h | exact absurd rfl hb
      have hg : given ops ⟨dst, .call ⟨.builtin b, args, tys⟩, ty, pos, after, guard⟩ = if b = .append then (match (args[0]? : Option Operand) with | some (.tmp s) => some (s, none) | _ => none) else none := by
        cases b <;> rfl
      rw [hg]
      have hone : ∀ {y : PV}, args.toList.map (ev env) = [y] → ∃ X, args = #[X] ∧ y = ev env X := by
        intro y hy
        cases hl : args.toList with
        | nil => rw [hl] at hy; simp at hy
        | cons X r =>
          rw [hl] at hy
          simp only [List.map_cons, List.cons.injEq, List.map_eq_nil_iff] at hy
          obtain ⟨h1, rfl⟩ := hy
          exact ⟨X, Array.ext' hl, h1.symm⟩
      have htwo : ∀ {y z : PV}, args.toList.map (ev env) = [y, z] → ∃ X Z, args = #[X, Z] ∧ y = ev env X ∧ z = ev env Z := by
        intro y z hy
        cases hl : args.toList with
        | nil => rw [hl] at hy; simp at hy
        | cons X r =>
          rw [hl] at hy
          cases r with
          | nil => simp at hy
          | cons Z r =>
            simp only [List.map_cons, List.cons.injEq, List.map_eq_nil_iff] at hy
            obtain ⟨h1, h3, rfl⟩ := hy
            exact ⟨X, Z, Array.ext' hl, h1.symm, h3.symm⟩
      generalize hl : args.toList.map (ev env) = l at h2
      cases b <;> first | (exact (u00 (H := H) h2).elim) | skip
      case len =>
        rcases l with _ | ⟨y, _ | ⟨z, l⟩⟩ <;> first | (exact (u00 (H := H) h2).elim) | skip
        have hy := hl
        unfold u4w at h2
        dsimp only at h2
        obtain ⟨X, rfl, rfl⟩ := hone hy
        rw [if_neg (by simp)]
        have hx2 : (execOp a.eval ⟨dst, .call ⟨.builtin .len, #[X], tys⟩, ty, pos, after, guard⟩) = (do pure (.value (← Builtin.len_ tys ty #[a.eval X])) : Sem Next) := by
          have e : #[X].map a.eval = #[a.eval X] := by simp
          rw [← e]
          rfl
        rw [hx2]
        cases ht0 : tys[0]? with
        | none => rw [ht0] at h2; exact (u00 (H := H) h2).elim
        | some t =>
          rw [ht0] at h2
          simp only [Option.bind_some] at h2
          cases hu : P.underlying t with
          | none => rw [hu] at h2; exact (u00 (H := H) h2).elim
          | some d =>
            rw [hu] at h2
            cases d <;> first | (exact (u00 (H := H) h2).elim) | skip
            · exact ((lnS_ok (tys := tys) (ty := ty) ht0 hu h2 (ev_rep hi hT X)).valOk hi hT dst).op
            · exact ((lnL_ok (tys := tys) (ty := ty) ht0 hu h2 (ev_rep hi hT X)).valOk hi hT dst).op
            · rename_i n e
              exact ((u06 (P := P) (s := Builtin.len_ tys ty #[a.eval X]) (cv := .int .i64 n) h2 (by simp [Builtin.len_, ht0, run_underlying hu, goInt]) (fun L => rInt _ _ L)).valOk hi hT dst).op
      case append =>
        rcases l with _ | ⟨y, _ | ⟨z, _ | ⟨z2, l⟩⟩⟩ <;> first | (exact (u00 (H := H) h2).elim) | skip
        have hy := hl
        unfold u4w at h2
        dsimp only at h2
        obtain ⟨X, Z, rfl, rfl, rfl⟩ := htwo hy
        rw [if_pos rfl]
        have hx2 : (execOp a.eval ⟨dst, .call ⟨.builtin .append, #[X, Z], tys⟩, ty, pos, after, guard⟩) = (do pure (.value (← Builtin.append_ tys ty #[a.eval X, a.eval Z])) : Sem Next) := by
          have e : #[X, Z].map a.eval = #[a.eval X, a.eval Z] := by simp
          rw [← e]
          rfl
        rw [hx2]
        have hsrc : (match (#[X, Z][0]? : Option Operand) with | some (.tmp s) => some (s, none) | _ => (none : Option (Tmp × Option Nat))) = srcO X := by cases X <;> rfl
        rw [hsrc]
        cases ht0 : tys[0]? with
        | none => rw [ht0] at h2; exact (u00 (H := H) h2).elim
        | some t =>
          cases ht1 : tys[1]? with
          | none =>
            rw [ht0, ht1] at h2
            simp only [Option.bind_some, Option.bind_none] at h2
            cases hu : P.underlying t with
            | none => rw [hu] at h2; exact (u00 (H := H) h2).elim
            | some d => rw [hu] at h2; cases d <;> exact (u00 (H := H) h2).elim
          | some u =>
            rw [ht0, ht1] at h2
            simp only [Option.bind_some] at h2
            cases hu : P.underlying t with
            | none => rw [hu] at h2; exact (u00 (H := H) h2).elim
            | some d =>
              rw [hu] at h2
              cases hu1 : P.underlying u with
              | none => rw [hu1] at h2; cases d <;> exact (u00 (H := H) h2).elim
              | some d1 =>
                rw [hu1] at h2
                have key : ∀ e, d = .slice e → (∀ k, d1 ≠ .int k) → guardM (listOk P e) (ap dst.isSome (tsize P e) (tbytes P e) (ev env X) (ev env Z)) H = some out →
                    OpRes x g w (giveUp env (srcO X)) a.tmps dst (((do pure (.value (← Builtin.append_ tys ty #[a.eval X, a.eval Z])) : Sem Next)).run P w) out := by
                  intro e he hk h3
                  subst he
                  obtain ⟨q1, q2⟩ := u02 h3
                  have hap := ap_ok (t := t) (u := u) (ty := ty) (A := X) (B := Z) (own := dst.isSome) dst (fun t ht => by rw [ht]; rfl) hu ⟨d1, hu1, hk⟩ q1 q2 hi hT
                  have htys : Builtin.append_ tys ty #[a.eval X, a.eval Z] = Builtin.append_ #[t, u] ty #[a.eval X, a.eval Z] := by
                    unfold Builtin.append_
                    rw [ht0, ht1]
                    rfl
                  rw [htys]
                  exact hap.op
                cases d <;> first | (exact (u00 (H := H) h2).elim) | skip
                cases d1 <;> first | (exact (u00 (H := H) h2).elim) | (exact key _ rfl (by simp) h2)
      case min =>
        rcases l with _ | ⟨y, _ | ⟨z, _ | ⟨z2, l⟩⟩⟩ <;> first | (exact (u00 (H := H) h2).elim) | skip
        obtain ⟨X, Z, rfl, rfl, rfl⟩ := htwo hl
        rw [if_neg (by simp)]
        have hx2 : (execOp a.eval ⟨dst, .call ⟨.builtin .min, #[X, Z], tys⟩, ty, pos, after, guard⟩) = (do pure (.value (← Builtin.min_ tys ty #[a.eval X, a.eval Z])) : Sem Next) := by
          have e : #[X, Z].map a.eval = #[a.eval X, a.eval Z] := by simp
          rw [← e]
          rfl
        rw [hx2]
        exact ((mn_ok (tys := tys) (ty := ty) h2 (ev_rep hi hT X) (ev_rep hi hT Z)).valOk hi hT dst).op
      case max =>
        rcases l with _ | ⟨y, _ | ⟨z, _ | ⟨z2, l⟩⟩⟩ <;> first | (exact (u00 (H := H) h2).elim) | skip
        obtain ⟨X, Z, rfl, rfl, rfl⟩ := htwo hl
        rw [if_neg (by simp)]
        have hx2 : (execOp a.eval ⟨dst, .call ⟨.builtin .max, #[X, Z], tys⟩, ty, pos, after, guard⟩) = (do pure (.value (← Builtin.max_ tys ty #[a.eval X, a.eval Z])) : Sem Next) := by
          have e : #[X, Z].map a.eval = #[a.eval X, a.eval Z] := by simp
          rw [← e]
          rfl
        rw [hx2]
        exact ((mx_ok (tys := tys) (ty := ty) h2 (ev_rep hi hT X) (ev_rep hi hT Z)).valOk hi hT dst).op
      case panic =>
        rcases l with _ | ⟨y, _ | ⟨z, l⟩⟩ <;> first | (exact (u00 (H := H) h2).elim) | skip
        have h2 : pn y H = some out := h2
        obtain ⟨X, rfl, rfl⟩ := hone hl
        rw [if_neg (by simp)]
        have rX := ev_rep hi hT X
        cases hp : ev env X with
        | iface t v =>
          rw [hp] at h2 rX
          obtain ⟨u, hu, hr⟩ := rX.iface
          have h2 : M.pan (.iface t v) H = some out := h2
          simp only [M.pan, Option.some.injEq] at h2
          subst h2
          refine ⟨.iface t u, w, g, ?_, Glob.refl _ _, hi, Grow.refl _ _, .iface hr⟩
          have : (execOp a.eval ⟨dst, .call ⟨.builtin .panic, #[X], tys⟩, ty, pos, after, guard⟩) = (do pure (.value (← Instr.panic (a.eval X))) : Sem Next) := by
            have e : #[X].map a.eval = #[a.eval X] := by simp
            have e2 : (execOp a.eval ⟨dst, .call ⟨.builtin .panic, #[X], tys⟩, ty, pos, after, guard⟩) = (do pure (.value (← Instr.panic ((#[X].map a.eval).getD 0 .nilIface))) : Sem Next) := rfl
            rw [e2, e]
            rfl
          rw [this, hu]
          simp [Instr.panic]
        | _ => (rw [hp] at h2; unfold pn at h2; exact (u00 (H := H) h2).elim)
  | go => exact (u00 (H := H) h).elim
  | defer => exact absurd hn (by simp [u3h])
  | panic X =>
    have h : pn (ev env X) H = some out := h
    have rX := ev_rep hi hT X
    cases hp : ev env X with
    | iface t v =>
      rw [hp] at h rX
      obtain ⟨u, hu, hr⟩ := rX.iface
      have h : M.pan (.iface t v) H = some out := h
      simp only [M.pan, Option.some.injEq] at h
      subst h
      refine ⟨.iface t u, w, g, ?_, Glob.refl _ _, hi, Grow.refl _ _, .iface hr⟩
      have : (execOp a.eval ⟨dst, .panic X, ty, pos, after, guard⟩) = (do pure (.value (← Instr.panic (a.eval X))) : Sem Next) := rfl
      rw [this, hu]
      simp [Instr.panic]
    | _ => (rw [hp] at h; unfold pn at h; exact (u00 (H := H) h).elim)
  | send => exact (u00 (H := H) h).elim
  | recv => exact (u00 (H := H) h).elim
  | select => exact (u00 (H := H) h).elim
theorem opL_ok {nw : Bool} {ops : Array Oper} {o : Oper} {a : Act} {out : Out PV} (h : opL P nw env o H = some out) (hi : Inv g H w) (hT : TOk x g env a.tmps) :
    OpRes x g w (giveUp env (given ops o)) a.tmps o.dst ((execOp a.eval o).run P w) out := by
  obtain ⟨dst, op, ty, pos, after, guard⟩ := o
  cases op with
  | buildSlice t n ps =>
    unfold opL at h
    dsimp only at h
    cases hu : P.underlying t with
    | none => rw [hu] at h; exact (u00 (H := H) h).elim
    | some d =>
      rw [hu] at h
      cases d <;> first | (exact (u00 (H := H) h).elim) | skip
      dsimp only at h
      obtain ⟨h1, h2⟩ := u02 h
      simp only [Bool.and_eq_true, beq_iff_eq, decide_eq_true_eq] at h1
      obtain ⟨q1, q2, q3, i, z, q4, q5, q6, q7, q8⟩ := u13 h1.2.2
      cases nw
      · exact (bsL_ok dst hu q2 h1.2.1 ⟨i, z, q4, q5, q6⟩ h1.1 h2 hi hT).op
      · exact (bsW_ok dst hu q2 h1.2.1 ⟨i, z, q4, q5, q6⟩ h1.1 h2 hi hT).op
  | makeSlice t l c =>
    unfold opL at h
    dsimp only at h
    cases hu : P.underlying t with
    | none => rw [hu] at h; exact (u00 (H := H) h).elim
    | some d =>
      rw [hu] at h
      cases d <;> first | (exact (u00 (H := H) h).elim) | skip
      dsimp only at h
      obtain ⟨h1, h2⟩ := u02 h
      simp only [Bool.and_eq_true] at h1
      exact (mkW_ok dst hu h1.2 h2 hi hT (ev_rep hi hT l) (ev_rep hi hT c)).op
  | convert s t X =>
    unfold opL at h
    dsimp only at h
    have rX := ev_rep hi hT X
    cases hk : cvKind P s t <;> rw [hk] at h <;> first | (exact (u00 (H := H) h).elim) | skip
    dsimp only at h
    unfold cvKind at hk
    cases hs : P.underlying s with
    | none => rw [hs] at hk; cases hk
    | some ds =>
      cases ht : P.underlying t with
      | none => rw [hs, ht] at hk; cases ds <;> cases hk
      | some dt =>
        rw [hs, ht] at hk
        cases ds <;> first | (cases dt <;> cases hk; done) | skip
        · cases dt <;> first | (cases hk; done) | skip
          rename_i e
          dsimp only at hk
          cases he : P.underlying e with
          | none => rw [he] at hk; cases hk
          | some de =>
            rw [he] at hk
            cases de <;> first | (cases hk; done) | skip
            rename_i k
            cases k <;> cases hk
        · rename_i e
          cases dt <;> first | (cases hk; done) | skip
          dsimp only at hk
          cases he : P.underlying e with
          | none => rw [he] at hk; cases hk
          | some de =>
            rw [he] at hk
            cases de <;> first | (cases hk; done) | skip
            rename_i k
            cases k <;> first | (cases hk; done) | skip
            exact ((cvX_ok hs he ht h hi rX).valOk hi hT dst).op
  | call c =>
    obtain ⟨callee, args, tys⟩ := c
    cases callee with
    | builtin b =>
      cases b <;> first | (exact (u00 (H := H) h).elim) | skip
      unfold opL at h
      dsimp only at h
      have hl : ∃ X Z, args = #[X, Z] := by
        cases hl : args.toList with
        | nil => rw [hl] at h; exact (u00 (H := H) h).elim
        | cons X r =>
          rw [hl] at h
          cases r with
          | nil => exact (u00 (H := H) h).elim
          | cons Z r =>
            cases r with
            | nil => exact ⟨X, Z, Array.ext' hl⟩
            | cons _ _ => exact (u00 (H := H) h).elim
      obtain ⟨X, Z, rfl⟩ := hl
      have hx2 : (execOp a.eval ⟨dst, .call ⟨.builtin .append, #[X, Z], tys⟩, ty, pos, after, guard⟩) = (do pure (.value (← Builtin.append_ tys ty #[a.eval X, a.eval Z])) : Sem Next) := by
        have e : #[X, Z].map a.eval = #[a.eval X, a.eval Z] := by simp
        rw [← e]
        rfl
      rw [hx2]
      have hsrc : given ops ⟨dst, .call ⟨.builtin .append, #[X, Z], tys⟩, ty, pos, after, guard⟩ = srcO X := by cases X <;> rfl
      rw [hsrc]
      have e0 : (#[X, Z] : Array Operand).toList.map (ev env) = [ev env X, ev env Z] := rfl
      rw [e0] at h
      cases ht0 : tys[0]? with
      | none => rw [ht0] at h; exact (u00 (H := H) h).elim
      | some t =>
        cases ht1 : tys[1]? with
        | none =>
          rw [ht0, ht1] at h
          simp only [Option.bind_some, Option.bind_none] at h
          cases hu : P.underlying t with
          | none => rw [hu] at h; exact (u00 (H := H) h).elim
          | some d => rw [hu] at h; cases d <;> exact (u00 (H := H) h).elim
        | some u =>
          rw [ht0, ht1] at h
          simp only [Option.bind_some] at h
          cases hu : P.underlying t with
          | none => rw [hu] at h; exact (u00 (H := H) h).elim
          | some d =>
            rw [hu] at h
            cases hu1 : P.underlying u with
            | none => rw [hu1] at h; cases d <;> exact (u00 (H := H) h).elim
            | some d1 =>
              rw [hu1] at h
              have key : ∀ e, d = .slice e → (∀ k, d1 ≠ .int k) → guardM (listOk P e) (apL dst.isSome (tagg P e) (tsize P e) (tbytes P e) nw (ev env X) (ev env Z)) H = some out →
                  OpRes x g w (giveUp env (srcO X)) a.tmps dst (((do pure (.value (← Builtin.append_ tys ty #[a.eval X, a.eval Z])) : Sem Next)).run P w) out := by
                intro e he hk h3
                subst he
                obtain ⟨q1, q2⟩ := u02 h3
                have hap := apL_ok (t := t) (u := u) (ty := ty) (A := X) (B := Z) (own := dst.isSome) dst (fun t ht => by rw [ht]; rfl) hu ⟨d1, hu1, hk⟩ q1 q2 hi hT
                have htys : Builtin.append_ tys ty #[a.eval X, a.eval Z] = Builtin.append_ #[t, u] ty #[a.eval X, a.eval Z] := by
                  unfold Builtin.append_
                  rw [ht0, ht1]
                  rfl
                rw [htys]
                exact hap.op
              cases d <;> first | (exact (u00 (H := H) h).elim) | skip
              cases d1 <;> first | (exact (u00 (H := H) h).elim) | (exact key _ rfl (by simp) h)
    | _ => exact (u00 (H := H) h).elim
  | _ => exact (u00 (H := H) h).elim
theorem uk9 {C : CallT} {es : Bool} {rc : Option (Option PV)} {ops : Array Oper} {o : Oper} {a : Act} {out : Out PV} (hN : es = true → g.N = none) (hn : u3h o.op = true) (h : opVal P C es rc ops env o H = some out) (hi : Inv g H w) (hT : TOk x g env a.tmps) :
    OpRes x g w (giveUp env (given ops o)) a.tmps o.dst ((execOp a.eval o).run P w) out := by
  unfold opVal at h
  cases hL : LO o with
  | none => rw [hL] at h; exact op0_ok hN hn h hi hT
  | some nw => rw [hL] at h; exact opL_ok h hi hT
end Go.Proofs.YtjcffopjohkmaaaDoor.Pi
namespace Go.Proofs.YtjcffopjohkmaaaDoor.Pi
variable {P : Program} {g : G} {L L' : Owner} {w w' : World} {H : Heap} {x : Nat} {env : Env}
structure ArgsOk (g : G) (ps : List PV) (vs : Array Value) : Prop where
  size : vs.size = ps.length
  rep : ∀ (j : Nat) (p : PV) (v : Value), ps[j]? = some p → vs[j]? = some v → RepT g .dead p v ∧ strip p = p
theorem RepT.still {p : PV} {v : Value} (h : RepT g L p v) (hs : Pi.strip p = p) {g' : G} (hι : IoLe g.io g'.io) (him : ∀ b o v, g.im b o = some v → g'.im b o = some v) (L' : Owner) : RepT g' L' p v := by
  have one : ∀ {p : PV} {v : Value} {M M' : Owner}, RepS g M p v → Pi.stripC p = p → RepS g' M' p v := by
    intro p v M M' h hs
    cases h with
    | undef => exact .undef _
    | pure h => exact .pure (h.mono hι him)
    | own => simp [Pi.stripC] at hs
  cases h with
  | one h =>
    refine .one ?_
    cases p with
    | tup ps => cases h with
      | pure h => cases h with
        | flat h => cases h
    | slice o z sz xs => exact one h (by simpa [Pi.strip, Pi.stripC] using hs)
    | _ => exact one h rfl
  | tup h1 r =>
    rename_i ps vs
    refine .tup h1 fun j q u a b => one (r j q u a b) ?_
    have : ps.map Pi.stripC = ps := by simpa [Pi.strip] using hs
    have h2 : (ps.map Pi.stripC)[j]? = some q := by rw [this]; exact a
    rw [List.getElem?_map, a] at h2
    simpa using h2
  | aggo h1 hc r => simp [Pi.strip] at hs
theorem ArgsOk.mono {ps : List PV} {vs : Array Value} (h : ArgsOk g ps vs) {g' : G} (hι : IoLe g.io g'.io) (him : ∀ b o v, g.im b o = some v → g'.im b o = some v) : ArgsOk g' ps vs :=
  ⟨h.size, fun j p v a b => let ⟨r, s⟩ := h.rep j p v a b; ⟨r.still s hι him _, s⟩⟩
theorem u7p (p : PV) : strip (strip p) = strip p := by
  cases p with
  | tup ps => simp only [strip, List.map_map, PV.tup.injEq]; apply List.map_congr_left; intro q _; exact u1g q
  | _ => rfl
def CallPost (g : G) (w : World) (out : Out PV) (e : Ending) (w' : World) : Prop :=
  ∃ g', Glob g w g' w' ∧ Grow u1z g g' ∧ match out with
    | .ok v H' => ∃ cv, e = .returned cv ∧ Inv g' H' w' ∧ RepT g' .res v cv
    | .pan v H' => ∃ cv, e = .panicked [{ v := cv, recovered := false }] ∧ Inv g' H' w' ∧ Rep g'.io g'.im v cv
def u1f (P : Program) (f : FuncId) : Bool :=
  match P.funcs[f]? with
  | some fn => fn.name != "runtime.NumGoroutine" && fn.body.isSome
  | none => false
structure Md (es : Bool) (g : G) : Prop where
  e : es = true → g.N = none
  n : es = false → ∃ n, g.N = some n
def u50 (P : Program) (C : CallT) : Prop :=
  ∀ f args H out, C f args H = some out → u1f P f = true ∧ ∀ g w cargs, Md (EF f) g → Inv g H w → ArgsOk g args cargs → Calls P f cargs w (CallPost g w out)
def CSound (P : Program) (es : Bool) (C : CallT) : Prop :=
  ∀ f args H out, C f args H = some out → u1f P f = true ∧ ∀ g w cargs, Md es g → Inv g H w → ArgsOk g args cargs → Calls P f cargs w (CallPost g w out)
def ModeOk (g : G) : Option PV → FrameMode → Prop
  | none, u => u = .returning
  | some p, u => ∃ cv, u = .panicking [{ v := cv, recovered := false }] ∧ Rep g.io g.im p cv
def u17 (v : PV) (u : FrameMode) : FrameMode :=
  match v, u with
  | .tup [], .panicking [{ v, .. }] => .panicking [{ v, recovered := true }]
  | _, u => u
def u9q (P : Program) (CD : Option PV → CallT) : Prop :=
  ∀ rv f args H out, CD rv f args H = some out → u1f P f = true ∧ ∃ v H', out = .ok v H' ∧ ∀ g w cargs u, Md (EF f) g → Inv g H w → ArgsOk g args cargs → ModeOk g rv u →
    CallsD P f cargs u w fun e u' w' => ∃ g' cv, Glob g w g' w' ∧ Grow u1z g g' ∧ e = .returned cv ∧ Inv g' H' w' ∧ u' = u17 v u
def upF : Owner → Owner
  | .cell i o => .cell i o
  | L => .up L
def downF : Owner → Owner
  | .cell i o => .cell i o
  | .up L => L
  | .res => .res
  | .sub .res j => .sub .res j
  | _ => .dead
theorem upF_up {L : Owner} (h : u1z L) : upF L = .up L := by cases L <;> first | rfl | exact h.elim
theorem out_of {g1 : G} {w1 : World} {n : Nat} (hgl : Glob (g.ren upF) w g1 w1) (hn : g.ι.length ≤ n) :
    let g2 : G := { (g1.ren downF) with io := ⟨g1.ι.take n, g1.io.z⟩ }
    Glob g w g2 w1 ∧ Grow u1z g g2 := by
  intro g2
  have hι : IoLe g.io g2.io := by
    refine ⟨fun i b hb => ?_, fun b s hz => hgl.up.ι.z b s hz⟩
    have hi : i < g.ι.length := (List.getElem?_eq_some_iff.mp hb).1
    show (g1.ι.take n)[i]? = some b
    rw [List.getElem?_take, if_pos (by omega)]
    exact hgl.up.ι.l i b hb
  have how : ∀ (b : Nat) (L : Owner) (s : Nat), u1z L → g.ow b = some (L, s) → g2.ow b = some (L, s) ∧ ∀ o, g.im b o = none → g2.im b o = none := by
    intro b L s hL hb
    have h1 : (g.ren upF).ow b = some (.up L, s) := by rw [ren_ow hb, upF_up hL]
    obtain ⟨h2, h3⟩ := hgl.up.ow b (.up L) s True.intro h1
    refine ⟨?_, h3⟩
    show (g1.ren downF).ow b = _
    rw [ren_ow h2]
    rfl
  refine ⟨⟨hgl.os, hgl.tape, hgl.output, hgl.size, fun b hb h1 h2 => ?_, ⟨hι, hgl.up.im, fun b L s hL hb => how b L s (by cases L <;> first | exact hL.elim | exact True.intro) hb, hgl.up.N⟩⟩, ⟨hι, hgl.up.im, how, hgl.up.N⟩⟩
  obtain ⟨a1, a2, a3⟩ := hgl.old b hb (ren_none.mpr h1) h2
  exact ⟨ren_none.mpr a1, fun hm => a2 (List.mem_of_mem_take hm), a3⟩
theorem Rep.low {ι : Io} {im : Nat → Nat → Option Value} {n : Nat} {p : PV} {v : Value} (h : Rep ι im p v) : p.low n = true → Rep ⟨ι.l.take n, ι.z⟩ im p v := by
  induction h with
  | flat h => exact fun _ => .flat h
  | ptr h =>
    intro hl
    refine .ptr ?_
    simp [PV.low] at hl
    rw [List.getElem?_take, if_pos hl]
    exact h
  | win h hz ho hn hs =>
    intro hl
    refine .win ?_ hz ho hn hs
    simp [PV.low] at hl
    rw [List.getElem?_take, if_pos hl]
    exact h
  | lit vs hn hl hc him _ ih =>
    intro hlw
    simp only [PV.low] at hlw
    exact .lit vs hn hl hc him (fun j c a => ih j c a (u1k hlw j c a))
  | lel vs hc him _ ih =>
    intro hlw
    simp only [PV.low] at hlw
    exact .lel vs hc him (fun j c a => ih j c a (u1k hlw j c a))
  | elem vs a b => exact fun _ => .elem vs a b
  | fn h1 h2 _ _ ih1 ih2 =>
    intro hl
    simp only [PV.low, Bool.and_eq_true] at hl
    exact .fn h1 h2 (fun j c v a b => ih1 j c v a b (u1k hl.1 j c a)) (fun j c v a b => ih2 j c v a b (u1k hl.2 j c a))
  | iface _ ih =>
    intro hl
    simp only [PV.low] at hl
    exact .iface (ih hl)
  | agg h1 hc _ ih =>
    intro hl
    simp only [PV.low] at hl
    exact .agg h1 hc (fun j c v a b => ih j c v a b (u1k hl j c a))
theorem RepS.low {p : PV} {v : Value} {n : Nat} (h : RepS g L p v) (hl : p.low n = true) : RepS { g with io := ⟨g.ι.take n, g.io.z⟩ } L p v := by
  cases h with
  | undef => exact .undef _
  | pure h => exact .pure (h.low hl)
  | own vs hc hsz him hr how hs hroom => exact .own vs hc hsz him hr how hs hroom
theorem RepT.lowT {p : PV} {v : Value} {n : Nat} (h : RepT g L p v) (hl : p.low n = true) : RepT { g with io := ⟨g.ι.take n, g.io.z⟩ } L p v := by
  cases h with
  | one h => exact .one (h.low hl)
  | tup h1 r =>
    simp only [PV.low] at hl
    exact .tup h1 fun j q u a b => (r j q u a b).low (u1k hl j q a)
  | aggo h1 hc r =>
    simp only [PV.low] at hl
    exact .aggo h1 hc fun j q u a b => (r j q u a b).low (u1k hl j q a)
theorem Inv.take {n : Nat} (h : Inv g H w) (hn : n ≤ H.length) (hlow : ∀ (id : Nat) (cs : List PV) (o : Nat) (c : PV), id < n → H[id]? = some (.cells cs) → cs[o]? = some c → c.low n = true) (hN : ∀ m, g.N = some m → m ≤ n) : Inv { g with io := ⟨g.ι.take n, g.io.z⟩ } (H.take n) w := by
  have hlen := h.len
  refine ⟨by simp [G.ι] at hlen ⊢; omega, fun i j b hi hj li lj => ?_, h.im, h.ow, fun id b y hb hy => ?_, h.gl, h.zl, fun m hm => by have := hN m hm; simp; omega⟩
  · have hi : (g.io.l.take n)[i]? = some b := hi
    have hj : (g.io.l.take n)[j]? = some b := hj
    rw [List.getElem?_take] at hi hj
    split at hi
    · rename_i hin
      split at hj
      · rename_i hjn
        have key : ∀ k, k < n → liveB (H.take n) k = true → liveB H k = true := by
          intro k hk hl
          unfold liveB at hl ⊢
          rw [List.getElem?_take, if_pos hk] at hl
          exact hl
        exact h.nd i j b hi hj (key i hin li) (key j hjn lj)
      · cases hj
    · cases hi
  · have hb : (g.io.l.take n)[id]? = some b := hb
    rw [List.getElem?_take] at hb hy
    split at hb
    · rename_i hid
      rw [if_pos hid] at hy
      have := h.box id b y hb hy
      cases y with
      | cells cs =>
        obtain ⟨h1, h2, vs, T, h3, h4, h5⟩ := this
        exact ⟨h1, h2, vs, T, h3, h4, fun o c v hc hv => let ⟨a, b, l⟩ := h5 o c v hc hv; ⟨a.low (hlow id cs o c hid hy hc), b, l⟩⟩
      | iter s pos => exact this
      | dead => exact this
    · cases hb
def LowH (N : Option Nat) (H : Heap) : Prop := ∀ (id : Nat) (cs : List PV) (o : Nat) (c : PV), H[id]? = some (.cells cs) → cs[o]? = some c → lowB N id c = true
theorem Inv.cellRep (h : Inv g H w) {id o : Nat} {cs : List PV} {c : PV} (hy : H[id]? = some (.cells cs)) (hc : cs[o]? = some c) : ∃ v, RepS g (.cell id o) c v ∧ isCell c = true ∧ lowB g.N id c = true := by
  obtain ⟨b, hb, h1, h2, vs, T, h3, h4, h5⟩ := h.boxAt hy
  have hlt : o < vs.size := by have := (List.getElem?_eq_some_iff.mp hc).1; have := h4.1; omega
  exact ⟨vs[o], h5 o c _ hc (Array.getElem?_eq_getElem hlt)⟩
theorem Inv.lowH (h : Inv g H w) : LowH g.N H := fun id cs o c hy hc => let ⟨_, _, _, h3⟩ := h.cellRep hy hc; h3
theorem Inv.lowAll (h : Inv g H w) {id o : Nat} {cs : List PV} {c : PV} (hy : H[id]? = some (.cells cs)) (hc : cs[o]? = some c) : c.low H.length = true := by
  obtain ⟨v, hr, hcell, _⟩ := h.cellRep hy hc
  have hrep := hr.toRep (by cases c <;> first | rfl | simp [isCell] at hcell)
  have := hrep.lowLen
  rw [u8a] at this
  have hl : g.io.l.length = H.length := h.len
  rw [hl] at this
  exact this
theorem Inv.lowLen (h : Inv g H w) : LowH (some H.length) H := fun id cs o c hy hc => by
  have := h.lowAll hy hc
  exact u1r (by omega) c this
def G.withN (g : G) (N : Option Nat) : G := { g with N := N }
theorem RepS.withN {N : Option Nat} {p : PV} {v : Value} (h : RepS g L p v) : RepS (g.withN N) L p v := by
  cases h with
  | undef => exact .undef v
  | pure h => exact .pure h
  | own vs hc hsz him hr how hs hroom => exact .own vs hc hsz him hr how hs hroom
theorem RepT.withN {N : Option Nat} {p : PV} {v : Value} (h : RepT g L p v) : RepT (g.withN N) L p v := by
  cases h with
  | one h => exact .one h.withN
  | tup h1 r => exact .tup h1 fun j p v a b => (r j p v a b).withN
  | aggo h1 hc r => exact .aggo h1 hc fun j p v a b => (r j p v a b).withN
theorem Inv.withN {N : Option Nat} (h : Inv g H w) (hl : LowH N H) (hn : ∀ n, N = some n → n ≤ H.length) : Inv (g.withN N) H w := by
  refine ⟨h.len, h.nd, h.im, h.ow, fun id b y hb hy => ?_, h.gl, h.zl, hn⟩
  have := h.box id b y hb hy
  cases y with
  | cells cs =>
    obtain ⟨h1, h2, vs, T, h3, h4, h5⟩ := this
    exact ⟨h1, h2, vs, T, h3, h4, fun o c v hc hv => let ⟨a, b, _⟩ := h5 o c v hc hv; ⟨a.withN, b, hl id cs o c hy hc⟩⟩
  | iter s p => exact this
  | dead => exact this
theorem Grow.withN {S : Owner → Prop} {g g' : G} {N : Option Nat} (h : Grow S g g') : Grow S (g.withN N) (g'.withN N) := ⟨h.ι, h.im, h.ow, rfl⟩
theorem Glob.withN {g g' : G} {N : Option Nat} (h : Glob g w g' w') : Glob (g.withN N) w (g'.withN N) w' := ⟨h.os, h.tape, h.output, h.size, h.old, h.up.withN⟩
theorem ArgsOk.withN {N : Option Nat} {ps : List PV} {vs : Array Value} (h : ArgsOk g ps vs) : ArgsOk (g.withN N) ps vs := ⟨h.size, fun j p v a b => let ⟨r, s⟩ := h.rep j p v a b; ⟨r.withN, s⟩⟩
theorem CallPost.withN {N : Option Nat} {out : Out PV} {e : Ending} (h : CallPost (g.withN N) w out e w') (hl : ∀ v K, out = .ok v K ∨ out = .pan v K → ∀ g1, Inv g1 K w' → Grow u1z (g.withN N) g1 → LowH g.N K ∧ ∀ n, g.N = some n → n ≤ K.length) : CallPost g w out e w' := by
  obtain ⟨g1, h1, h2, h3⟩ := h
  refine ⟨g1.withN g.N, h1.withN (N := g.N), h2.withN (N := g.N), ?_⟩
  cases out with
  | ok v K =>
    obtain ⟨cv, he, hi, hr⟩ := h3
    obtain ⟨l1, l2⟩ := hl v K (.inl rfl) g1 hi h2
    exact ⟨cv, he, hi.withN l1 l2, hr.withN⟩
  | pan v K =>
    obtain ⟨cv, he, hi, hr⟩ := h3
    obtain ⟨l1, l2⟩ := hl v K (.inr rfl) g1 hi h2
    exact ⟨cv, he, hi.withN l1 l2, hr⟩
theorem ufk {m : M PV} {out : Out PV} (h : asWas m H = some out) : m H = some out ∧ ∃ v, out = .ok v H ∨ out = .pan v H := by
  unfold asWas at h
  cases hm : m H with
  | none => rw [hm] at h; cases h
  | some o =>
    rw [hm] at h
    cases o with
    | ok v K =>
      by_cases e : K = H
      · simp only [e, if_true, Option.some.injEq] at h
        subst h
        exact ⟨by rw [e], v, .inl rfl⟩
      · simp [e] at h
    | pan v K =>
      by_cases e : K = H
      · simp only [e, if_true, Option.some.injEq] at h
        subst h
        exact ⟨by rw [e], v, .inr rfl⟩
      · simp [e] at h
theorem u30 {P : Program} {C : CallT} {es : Bool} (hC : u50 P C) : CSound P es (callG es C) := by
  intro f args H out h
  unfold callG at h
  cases es with
  | true =>
    have h : C f args H = some out := h
    obtain ⟨h1, h2⟩ := hC f args H out h
    refine ⟨h1, fun g w cargs hm hi ha => ?_⟩
    cases hf : EF f with
    | true => exact h2 g w cargs ⟨fun _ => hm.e rfl, fun h => (by rw [hf] at h; cases h)⟩ hi ha
    | false =>
      refine (h2 (g.withN (some H.length)) w cargs ⟨fun h => (by rw [hf] at h; cases h), fun _ => ⟨_, rfl⟩⟩ (hi.withN hi.lowLen (fun n hn => by cases hn; exact Nat.le_refl _)) ha.withN).mono fun e w' hp => hp.withN fun v K _ g1 hi1 _ => ?_
      have hn := hm.e rfl
      rw [hn]
      exact ⟨fun _ _ _ _ _ _ => rfl, fun n hn => by cases hn⟩
  | false =>
    cases hf : EF f with
    | false =>
      have h : C f args H = some out := by simpa [hf] using h
      obtain ⟨h1, h2⟩ := hC f args H out h
      exact ⟨h1, fun g w cargs hm hi ha => h2 g w cargs ⟨fun h => (by rw [hf] at h; cases h), fun _ => hm.n rfl⟩ hi ha⟩
    | true =>
      have h : asWas (C f args) H = some out := by simpa [hf] using h
      obtain ⟨h, v0, hout⟩ := ufk h
      obtain ⟨h1, h2⟩ := hC f args H out h
      refine ⟨h1, fun g w cargs hm hi ha => ?_⟩
      refine (h2 (g.withN none) w cargs ⟨fun _ => rfl, fun h => (by rw [hf] at h; cases h)⟩ (hi.withN (fun _ _ _ _ _ _ => rfl) (fun n hn => by cases hn)) ha.withN).mono fun e w' hp => hp.withN fun v K hK g1 hi1 _ => ?_
      have hKH : K = H := by
        rcases hout with rfl | rfl <;> rcases hK with hK | hK <;> cases hK <;> rfl
      subst hKH
      exact ⟨hi.lowH, hi.nn⟩
def uhq (P : Program) (es : Bool) (CD : Option PV → CallT) : Prop :=
  ∀ rv f args H out, CD rv f args H = some out → u1f P f = true ∧ ∃ v H', out = .ok v H' ∧ ∀ g w cargs u, Md es g → Inv g H w → ArgsOk g args cargs → ModeOk g rv u →
    CallsD P f cargs u w fun e u' w' => ∃ g' cv, Glob g w g' w' ∧ Grow u1z g g' ∧ e = .returned cv ∧ Inv g' H' w' ∧ u' = u17 v u
theorem u5c {P : Program} {CD : Option PV → CallT} {es : Bool} (hC : u9q P CD) : uhq P es (callDG es CD) := by
  intro rv f args H out h
  unfold callDG at h
  cases hf : (EF f == es) with
  | false => rw [hf] at h; exact (u00 (H := H) h).elim
  | true =>
    rw [hf] at h
    have he : EF f = es := by simpa using hf
    obtain ⟨h1, v, H', h2, h3⟩ := hC rv f args H out h
    exact ⟨h1, v, H', h2, fun g w cargs u hm => h3 g w cargs u (by rw [he]; exact hm)⟩
end Go.Proofs.YtjcffopjohkmaaaDoor.Pi
namespace Go.Proofs.YtjcffopjohkmaaaDoor.Pi
variable {g : G} {L L' : Owner} {w w' : World} {H : Heap} {x : Nat} {env : Env}
structure Dfr where
  f : FuncId
  args : List PV
  res : M PV
def dstep (CD : Option PV → CallT) (d : Dfr) : Out PV → Option (Out PV)
  | .ok _ H => M.bind (CD none d.f d.args) (fun _ => d.res) H
  | .pan v H => M.bind (CD (some v) d.f d.args) (fun r => match r with | .tup [] => d.res | _ => M.fail) H
def unw (CD : Option PV → CallT) : List Dfr → Out PV → Option (Out PV)
  | [], o => some o
  | d :: Δ, o => (dstep CD d o).bind (unw CD Δ)
def DefsOk (c : Ctx) (g : G) (env : Env) : List Dfr → List Deferred → Prop
  | [], [] => True
  | d :: Δ, δ :: ds => (∃ cap cargs, δ = { target := .fn (.func d.f) cap, args := cargs } ∧ ArgsOk g d.args (cargs ++ cap)) ∧
      (c.prot ≠ [] ∧ ∃ ed, d.res = c.res ed ∧ ∀ t ∈ c.prot, ∃ id off, ed.getD t .undef = .ptr id off ∧ env.getD t .undef = .ptr id off) ∧ DefsOk c g env Δ ds
  | _, _ => False
theorem DefsOk.step {c : Ctx} {g' : G} {env' : Env} (hι : IoLe g.io g'.io) (him : ∀ b o v, g.im b o = some v → g'.im b o = some v)
    (he : ∀ t ∈ c.prot, ∀ id off, env.getD t .undef = .ptr id off → env'.getD t .undef = .ptr id off) : ∀ {Δ : List Dfr} {ds : List Deferred}, DefsOk c g env Δ ds → DefsOk c g' env' Δ ds
  | [], [], _ => True.intro
  | d :: Δ, δ :: ds, ⟨⟨cap, cargs, h1, h2⟩, ⟨hne, ed, h3, h4⟩, h5⟩ => ⟨⟨cap, cargs, h1, h2.mono hι him⟩, ⟨hne, ed, h3, fun t ht => let ⟨id, off, a, b⟩ := h4 t ht; ⟨id, off, a, he t ht id off b⟩⟩, DefsOk.step hι him he h5⟩
def xOf (rc : Option (Option PV)) : Nat := if rc.isSome then 1 else 0
structure Sta (c : Ctx) (g : G) (H : Heap) (env : Env) (a : Act) (w : World) (Δ : List Dfr) : Prop where
  inv : Inv g H w
  tok : TOk (xOf c.rc) g env a.tmps
  defs : DefsOk c g env Δ a.defers
  md : Md c.es g
theorem Md.grow {es : Bool} {S : Owner → Prop} {g g' : G} (h : Md es g) (hg : Grow S g g') : Md es g' := ⟨fun he => by rw [hg.N]; exact h.e he, fun he => by rw [hg.N]; exact h.n he⟩
theorem u1q (env : Env) (s t : Nat) (v : PV) : (env.set s v).getD t .undef = if s = t ∧ s < env.length then v else env.getD t .undef := by
  simp only [List.getD_eq_getElem?_getD, List.getElem?_set]
  by_cases h : s = t
  · subst h
    by_cases h2 : s < env.length
    · simp [h2]
    · simp [h2, List.getElem?_eq_none (Nat.le_of_not_lt h2)]
  · simp [h]
theorem u3y {t : Nat} {id off : Nat} (s : Option (Tmp × Option Nat)) (h : env.getD t .undef = .ptr id off) : (giveUp env s).getD t .undef = .ptr id off := by
  unfold giveUp
  split
  · rw [u1q]
    split
    · rename_i hh
      rw [hh.1, h]
      rfl
    · exact h
  · rw [u1q]
    split
    · rename_i hh
      rw [hh.1, h]
      rfl
    · exact h
  · exact h
def Leaf (CDN : Option PV → CallT) (c : Ctx) (g0 : G) (w0 : World) (out : Out PV) (k : Env → M PV) (Q : Act → World → Prop) : Prop :=
  ∀ Δ o g H env a w, k env H = some o → unw CDN Δ o = some out → Glob g0 w0 g w → Sta c g H env a w Δ → Q a w
def u6e (CDN : Option PV → CallT) (c : Ctx) (g0 : G) (w0 : World) (out : Out PV) (Q : List PanicEntry → Act → World → Prop) : Prop :=
  ∀ Δ v H g env a w cv, unw CDN Δ (.pan v H) = some out → Glob g0 w0 g w → Sta c g H env a w Δ → Rep g.io g.im v cv → Q [{ v := cv, recovered := false }] a w
theorem ul3 {c : Ctx} {ops : Array Oper} {o : Oper} {v : PV} {t : Nat} {id off : Nat} (hr : c.rc.isSome = false ∨ u05 o = false) (hd : okDst c.rc.isSome c.prot env o.dst = true) (ht : t ∈ c.prot) (he : env.getD t .undef = .ptr id off) :
    (put c.rc ops env o v).getD t .undef = .ptr id off := by
  have htook : took c.rc o (giveUp env (given ops o)) = giveUp env (given ops o) := by
    unfold took
    rcases hr with hr | hr <;> simp [hr]
  unfold Pi.put
  rw [htook]
  cases hdst : o.dst with
  | none => exact u3y _ he
  | some d =>
    rw [hdst] at hd
    unfold okDst at hd
    simp only [Bool.and_eq_true, Bool.or_eq_true, Bool.not_eq_true', decide_eq_true_eq] at hd
    have hne : d ≠ t := by
      intro e
      subst e
      rcases hd.1 with h1 | h1
      · exact absurd (List.contains_iff_mem.mpr ht) (by rw [h1]; simp)
      · rw [he] at h1
        simp [u77] at h1
    show ((giveUp env (given ops o)).set d v).getD t .undef = _
    rw [u1q, if_neg (fun h => hne h.1)]
    exact u3y _ he
theorem Sta.put {c : Ctx} {g' : G} {H' : Heap} {a : Act} {Δ : List Dfr} {o : Oper} {ops : Array Oper} {v : PV} {cv : Value} (h : Sta c g H env a w Δ) (hr : c.rc.isSome = false ∨ u05 o = false) (hd : okDst c.rc.isSome c.prot env o.dst = true)
    (hi : Inv g' H' w') (ht : TOk (xOf c.rc) g' (giveUp env (given ops o)) a.tmps) (hv : ∀ t, o.dst = some t → RepT g' (.tmp t) v cv)
    (hι : IoLe g.io g'.io) (him : ∀ b o v, g.im b o = some v → g'.im b o = some v) (hN : g'.N = g.N) : Sta c g' H' (put c.rc ops env o v) (a.put o.dst cv) w' Δ := by
  have htook : took c.rc o (giveUp env (given ops o)) = giveUp env (given ops o) := by
    unfold took
    rcases hr with hr | hr <;> simp [hr]
  unfold Pi.put
  rw [htook]
  cases hdst : o.dst with
  | none =>
    exact ⟨hi, ht, h.defs.step hι him (fun t _ id off he => u3y _ he), ⟨fun he => by rw [hN]; exact h.md.e he, fun he => by rw [hN]; exact h.md.n he⟩⟩
  | some d =>
    rw [hdst] at hd
    unfold okDst at hd
    simp only [Bool.and_eq_true, Bool.or_eq_true, Bool.not_eq_true', decide_eq_true_eq] at hd
    have hd1 : xOf c.rc = 0 ∨ d + 1 < (giveUp env (given ops o)).length := by
      rw [u1h]
      rcases hd.2 with h1 | h1
      · exact .inl (by simp [xOf, h1])
      · exact .inr h1
    refine ⟨hi, ht.put hd1 (hv d hdst), h.defs.step hι him (fun t ht' id off he => ?_), ⟨fun he => by rw [hN]; exact h.md.e he, fun he => by rw [hN]; exact h.md.n he⟩⟩
    have hne : d ≠ t := by
      intro e
      subst e
      rcases hd.1 with h1 | h1
      · exact absurd (List.contains_iff_mem.mpr ht') (by rw [h1]; simp)
      · rw [he] at h1
        simp [u77] at h1
    show ((giveUp env (given ops o)).set d v).getD t .undef = _
    rw [u1q, if_neg (fun h => hne h.1)]
    exact u3y _ he
end Go.Proofs.YtjcffopjohkmaaaDoor.Pi
namespace Go.Proofs.YtjcffopjohkmaaaDoor.Pi
variable {g : G} {L L' : Owner} {w w' : World} {H : Heap} {x : Nat} {env : Env}
theorem Rep.strip {ι : Io} {im : Nat → Nat → Option Value} {p : PV} {v : Value} (h : Rep ι im p v) : Pi.strip p = p := by
  cases h with
  | flat h => cases h <;> rfl
  | _ => rfl
def resTo (d : Nat) : Owner → Owner
  | .res => .tmp d
  | .sub .res j => .sub (.tmp d) j
  | M => M
theorem u5n {P : Program} {f : FuncId} {args : Array Value} (h : u1f P f = true) : (callFunc f args).run P w = .ok (.enter f args) w := by
  unfold u1f at h
  cases hf : P.funcs[f]? with
  | none => rw [hf] at h; simp at h
  | some fn =>
    rw [hf] at h
    simp only [Bool.and_eq_true, bne_iff_ne, ne_eq] at h
    obtain ⟨h1, h2⟩ := h
    have h3 : fn.body.isNone = false := by cases hb : fn.body <;> simp [hb] at h2 ⊢
    have h4 : (fn.name == "runtime.NumGoroutine") = false := by simpa using h1
    simp only [callFunc, Sem.run_bind, run_program, Result.andThen_ok, hf]
    rw [h4, h3]
    rfl
theorem ukp {c : Ctx} {a : Act} {ops : Array Oper} {o : Oper} {f : Operand} {args : Array Operand} {tys : Array TypeId} {Δ : List Dfr} {out1 : Out PV} {next : Act → World → Prop} {Q : Exit → Act → World → Prop}
    (hC : CSound c.P c.es c.C) (hop : o.op = .call ⟨.value f, args, tys⟩) (hS : Sta c g H env a w Δ) (hd : okDst c.rc.isSome c.prot env o.dst = true)
    (h : callV c.P c.C (ev env f) (args.toList.map fun y => strip (ev env y)) H = some out1)
    (hok : ∀ v H1 g' a' w', out1 = .ok v H1 → Glob g w g' w' → Sta c g' H1 (put c.rc ops env o v) a' w' Δ → next a' w')
    (hpan : ∀ v H1 g' w' cv, out1 = .pan v H1 → Glob g w g' w' → Sta c g' H1 env a w' Δ → Rep g'.io g'.im v cv → Q (.panic [{ v := cv, recovered := false }]) a w') :
    o.wp c.P a w next Q := by
  have rf := ev_rep hS.inv hS.tok f
  have hgiv : given ops o = none := by
    obtain ⟨dst, op, ty, pos, after, guard⟩ := o
    simp only at hop
    subst hop
    rfl
  have hrec : u05 o = false := by
    unfold u05
    rw [hop]
  have hexe : execOp a.eval o = (do let d ← Deferred.ofValue (a.eval f) (args.map a.eval); invoke d.target d.args) := by
    unfold execOp
    rw [hop]
    rfl
  cases hfv : ev env f with
  | fn fid first caps =>
    rw [hfv] at h rf
    obtain ⟨fv, cv, hfe, h1, h2, h3, h4⟩ := rf.fn
    have h : c.C fid (first ++ (args.toList.map fun y => strip (ev env y)) ++ caps) H = some out1 := h
    obtain ⟨hcal, hcs⟩ := hC _ _ _ _ h
    have hrun : (execOp a.eval o).run c.P w = .ok (.enter fid (fv ++ args.map a.eval ++ cv)) w := by
      rw [hexe, hfe]
      simp only [Deferred.ofValue, Sem.run_bind, Sem.run_pure, Result.andThen_ok, invoke, u5n hcal]
    have hargs : ArgsOk g (first ++ (args.toList.map fun y => strip (ev env y)) ++ caps) (fv ++ args.map a.eval ++ cv) := by
      refine ⟨by simp [h1, h2], fun j p v hp hv => ?_⟩
      have hsz1 : (fv ++ args.map a.eval).size = (first ++ (args.toList.map fun y => strip (ev env y))).length := by simp [h1]
      by_cases hj : j < (first ++ (args.toList.map fun y => strip (ev env y))).length
      · rw [List.getElem?_append_left hj] at hp
        rw [Array.getElem?_append_left (by omega)] at hv
        by_cases hj2 : j < first.length
        · rw [List.getElem?_append_left hj2] at hp
          rw [Array.getElem?_append_left (by omega)] at hv
          have := h3 j p v hp hv
          exact ⟨rT this _, this.strip⟩
        · rw [List.getElem?_append_right (by omega)] at hp
          rw [Array.getElem?_append_right (by omega)] at hv
          simp only [List.getElem?_map, Option.map_eq_some_iff] at hp
          obtain ⟨y, hy, rfl⟩ := hp
          rw [h1] at hv
          simp only [Array.getElem?_map, Option.map_eq_some_iff] at hv
          obtain ⟨y', hy', rfl⟩ := hv
          have : y = y' := by
            rw [Array.getElem?_toList] at hy
            rw [hy] at hy'
            exact Option.some.inj hy'
          subst this
          exact ⟨(ev_rep hS.inv hS.tok y).strip, u7p _⟩
      · rw [List.getElem?_append_right (by omega)] at hp
        rw [Array.getElem?_append_right (by omega)] at hv
        rw [hsz1] at hv
        have := h4 _ p v hp hv
        exact ⟨rT this _, this.strip⟩
    unfold Oper.wp
    rw [hrun, Oper.upon_enter]
    refine (hcs g w _ hS.md hS.inv hargs).mono ?_
    rintro e w1 ⟨g1, hgl, hgr, hpost⟩
    cases out1 with
    | ok v H1 =>
      obtain ⟨cv, rfl, hi1, hr1⟩ := hpost
      -- what the call handed back is taken over
      have hg2 : Glob g w (g1.ren (resTo (o.dst.getD 0))) w1 := hgl.trans (u1a (fun M => rfl))
      have ht1 : TOk (xOf c.rc) g1 env a.tmps := hS.tok.mono hgr (fun M hM => by cases M <;> first | exact True.intro | exact hM.elim)
      have ht2 : TOk (xOf c.rc) (g1.ren (resTo (o.dst.getD 0))) env a.tmps := u4g (fun _ => rfl) (fun _ _ => rfl) ht1
      refine hok v H1 _ _ w1 rfl hg2 (hS.put (.inr hrec) hd (hi1.ren (fun _ _ => rfl)) (by rw [hgiv]; exact ht2) (fun t ht => ?_) hgr.ι hgr.im hgr.N)
      rw [ht]
      exact hr1.ren rfl (fun j => rfl)
    | pan v H1 =>
      obtain ⟨cv, rfl, hi1, hr1⟩ := hpost
      have ht1 : TOk (xOf c.rc) g1 env a.tmps := hS.tok.mono hgr (fun M hM => by cases M <;> first | exact True.intro | exact hM.elim)
      exact hpan v H1 g1 w1 cv rfl hgl ⟨hi1, ht1, hS.defs.step hgr.ι hgr.im (fun t _ id off he => he), hS.md.grow hgr⟩ hr1
  | nilfn =>
    rw [hfv] at h rf
    have hfe := rf.nilfn
    have h : M.pan (nilDeref c.P) H = some out1 := h
    simp only [M.pan, Option.some.injEq] at h
    subst h
    have hrun : (execOp a.eval o).run c.P w = .halt (.panic (.iface c.P.rt.errorString (strVal "invalid memory address or nil pointer dereference"))) w := by
      rw [hexe, hfe]
      simp only [Deferred.ofValue, Sem.run_bind, Sem.run_pure, Result.andThen_ok, invoke, u5e]
    unfold Oper.wp
    rw [hrun, Oper.upon_panic]
    exact hpan _ H g w _ rfl (Glob.refl _ _) hS u5l
  | _ => (rw [hfv] at h; exact (u00 (H := H) h).elim)
theorem ufh {P : Program} {C : CallT} {es : Bool} {rc : Option (Option PV)} {ops : Array Oper} {o : Oper} {out : Out PV} (hn : ¬ u3h o.op = true) (h : opVal P C es rc ops env o H = some out) : op0 P C es rc ops env o H = some out := by
  unfold opVal at h
  cases hL : LO o with
  | none => rw [hL] at h; exact h
  | some nw =>
    rw [hL] at h
    obtain ⟨dst, op, ty, pos, after, guard⟩ := o
    cases op with
    | call cl =>
      obtain ⟨callee, args, tys⟩ := cl
      cases callee with
      | value f => exact (u00 (H := H) h).elim
      | invoke r m => exact (u00 (H := H) h).elim
      | builtin b => cases b <;> first | exact (u00 (H := H) h).elim | exact absurd rfl hn
    | defer cl => exact (u00 (H := H) h).elim
    | _ => exact absurd rfl hn
theorem ud4 {c : Ctx} {a : Act} {ops : Array Oper} {o : Oper} {Δ : List Dfr} {out1 : Out PV} {next : Act → World → Prop} {Q : Exit → Act → World → Prop}
    (hC : CSound c.P c.es c.C) (hrc : c.rc.isSome = false ∨ u05 o = false) (hS : Sta c g H env a w Δ) (hd : okDst c.rc.isSome c.prot env o.dst = true) (h : gval c.P c.C c.es c.rc ops env o H = some out1)
    (hok : ∀ v H1 g' a' w', out1 = .ok v H1 → Glob g w g' w' → Sta c g' H1 (put c.rc ops env o v) a' w' Δ → next a' w')
    (hpan : ∀ v H1 g' w' cv, out1 = .pan v H1 → Glob g w g' w' → Sta c g' H1 env a w' Δ → Rep g'.io g'.im v cv → Q (.panic [{ v := cv, recovered := false }]) a w') :
    if Region.wanted o (yielded ops a.tmps) then o.wp c.P a w next Q else next (a.put o.dst undef) w := by
  have main : opVal c.P c.C c.es c.rc ops env o H = some out1 → o.wp c.P a w next Q := by
    intro h
    by_cases hn : u3h o.op = true
    · have hres := uk9 hS.md.e hn h hS.inv hS.tok
      have hrec : u05 o = false := by
        unfold u05
        cases hop : o.op <;> first | rfl | skip
        rename_i cl
        obtain ⟨callee, args, tys⟩ := cl
        cases callee <;> first | rfl | skip
        rename_i b
        cases b <;> first | rfl | skip
        rw [hop] at hn
        simp [u3h] at hn
      unfold Oper.wp
      cases out1 with
      | ok v H1 =>
        obtain ⟨cv, w1, g1, hr, hgl, hi1, ht1, hv⟩ := hres
        have hι : IoLe g.io g1.io := hgl.up.ι
        have him : ∀ b o v, g.im b o = some v → g1.im b o = some v := hgl.up.im
        have hst := hS.put (.inr hrec) hd hi1 ht1 hv hι him hgl.up.N
        rcases hr with hr | ⟨hr, rfl⟩
        · rw [hr, Oper.upon_value]
          exact hok v H1 g1 _ w1 rfl hgl hst
        · rw [hr, Oper.upon_skip]
          exact hok v H1 g1 _ w1 rfl hgl hst
      | pan v H1 =>
        obtain ⟨cv, w1, g1, hr, hgl, hi1, hgr, hv⟩ := hres
        rw [hr, Oper.upon_panic]
        exact hpan v H1 g1 w1 cv rfl hgl ⟨hi1, hS.tok.mono hgr (fun _ h => h), hS.defs.step hgr.ι hgr.im (fun t _ id off he => he), hS.md.grow hgr⟩ hv
    · replace h := ufh hn h
      obtain ⟨dst, op, ty, pos, after, guard⟩ := o
      cases op with
      | call cl =>
        obtain ⟨callee, args, tys⟩ := cl
        cases callee with
        | value f => exact ukp hC rfl hS hd h hok hpan
        | invoke r m => exact (u00 (H := H) h).elim
        | builtin b =>
          cases b with
          | recover =>
            rcases hrc with hrc | hrc
            · have : c.rc = none := by cases hr : c.rc <;> simp [hr] at hrc ⊢
              rw [this] at h
              exact (u00 (H := H) h).elim
            · exact absurd hrc (by simp [u05])
          | _ => exact absurd rfl hn
      | defer cl => exact (u00 (H := H) h).elim
      | _ => exact absurd rfl hn
  unfold gval at h
  cases hg : o.guard with
  | none =>
    rw [hg] at h
    have : Region.wanted o (yielded ops a.tmps) = true := by simp [Region.wanted, hg]
    rw [if_pos this]
    exact main h
  | some jw =>
    obtain ⟨j, want⟩ := jw
    rw [hg] at h
    dsimp only at h
    cases hdj : (ops[j]?).bind (·.dst) with
    | none => rw [hdj] at h; exact (u00 (H := H) h).elim
    | some d =>
      rw [hdj] at h
      dsimp only at h
      have rd := ev_tmp hS.tok d
      unfold gd at h
      cases hb : env.getD d .undef with
      | bool b =>
        rw [hb] at h rd
        dsimp only at h
        have hv := rd.bool
        have hy : yielded ops a.tmps j = some b := by
          unfold yielded
          rw [hdj]
          simp only [Option.bind_some]
          cases ht : a.tmps[d]? with
          | none => simp [Array.getD_eq_getD_getElem?, ht, undef] at hv
          | some v =>
            simp [Array.getD_eq_getD_getElem?, ht] at hv
            subst hv
            rfl
        have hw : Region.wanted o (yielded ops a.tmps) = (b == want) := by
          unfold Region.wanted
          rw [hg]
          simp only [hy]
          cases b <;> cases want <;> rfl
        rw [hw]
        cases hbw : (b == want) with
        | true =>
          rw [hbw] at h
          rw [if_pos rfl]
          exact main h
        | false =>
          rw [hbw] at h
          simp only [cond_false, M.pure, Option.some.injEq] at h
          subst h
          rw [if_neg (by simp)]
          exact hok (.tup []) H g _ w rfl (Glob.refl _ _) (hS.put hrc hd hS.inv (hS.tok.giveUp _) (fun t _ => .tup rfl (fun j p v hp _ => by simp at hp)) (IoLe.refl _) (fun _ _ _ h => h) rfl)
      | tup vs =>
        cases vs with
        | nil =>
          rw [hb] at h rd
          have h : M.pure (PV.tup []) H = some out1 := h
          simp only [M.pure, Option.some.injEq] at h
          subst h
          have hv : a.tmps.getD d undef = .tuple #[] := by
            generalize a.tmps.getD d undef = q at rd
            cases rd with
            | one r => cases r with
              | pure r => cases r with
                | flat r => cases r
            | tup h1 r =>
              rename_i w1
              have : w1 = #[] := Array.eq_empty_of_size_eq_zero h1
              rw [this]
          have hy : yielded ops a.tmps j = none := by
            unfold yielded
            rw [hdj]
            simp only [Option.bind_some]
            cases ht : a.tmps[d]? with
            | none => rfl
            | some v =>
              simp [Array.getD_eq_getD_getElem?, ht] at hv
              subst hv
              rfl
          have hw : Region.wanted o (yielded ops a.tmps) = false := by
            unfold Region.wanted
            rw [hg]
            simp only [hy]
            rfl
          rw [hw, if_neg (by simp)]
          exact hok (.tup []) H g _ w rfl (Glob.refl _ _) (hS.put hrc hd hS.inv (hS.tok.giveUp _) (fun t _ => .tup rfl (fun j p v hp _ => by simp at hp)) (IoLe.refl _) (fun _ _ _ h => h) rfl)
        | cons x y => (rw [hb] at h; exact (u00 (H := H) h).elim)
      | _ => (rw [hb] at h; exact (u00 (H := H) h).elim)
end Go.Proofs.YtjcffopjohkmaaaDoor.Pi
namespace Go.Proofs.YtjcffopjohkmaaaDoor.Pi
variable {g : G} {L L' : Owner} {w w' : World} {H : Heap} {x : Nat} {env : Env}
theorem uiz {CD CDN : Option PV → CallT} (h : ∀ r f a, Le (CD r f a) (CDN r f a)) {d : Dfr} {o o' : Out PV} (hd : dstep CD d o = some o') : dstep CDN d o = some o' := by
  cases o with
  | ok v H => exact Le.bind (h _ _ _) (fun _ => Le.refl _) H o' hd
  | pan v H => exact Le.bind (h _ _ _) (fun _ => Le.refl _) H o' hd
theorem ud5 {CD : Option PV → CallT} {p : PV} {args : List PV} {rest res : M PV} {o : Out PV} (h : deferM CD p args rest res H = some o) :
    ∃ f first caps o2, p = .fn f first caps ∧ rest H = some o2 ∧ dstep CD ⟨f, first ++ args ++ caps, res⟩ o2 = some o := by
  cases p with
  | fn f first caps =>
    unfold deferM at h
    dsimp only at h
    cases hr : rest H with
    | none => rw [hr] at h; simp at h
    | some o2 =>
      rw [hr] at h
      refine ⟨f, first, caps, o2, rfl, rfl, ?_⟩
      cases o2 <;> exact h
  | _ => (unfold deferM at h; exact nomatch h)
theorem ufy {H : Heap} {w : World} {a : Act} (hi : Inv g H w) (hT : TOk x g env a.tmps) {f : Operand} {args : Array Operand} {fid : FuncId} {first caps : List PV} (hf : ev env f = .fn fid first caps) :
    ∃ fv cv, a.eval f = .func (.func fid) fv cv ∧ ArgsOk g (first ++ (args.toList.map fun y => strip (ev env y)) ++ caps) (fv ++ args.map a.eval ++ cv) := by
  have rf := ev_rep hi hT f
  rw [hf] at rf
  obtain ⟨fv, cv, hfe, h1, h2, h3, h4⟩ := rf.fn
  refine ⟨fv, cv, hfe, by simp [h1, h2], fun j p v hp hv => ?_⟩
  have hsz1 : (fv ++ args.map a.eval).size = (first ++ (args.toList.map fun y => strip (ev env y))).length := by simp [h1]
  by_cases hj : j < (first ++ (args.toList.map fun y => strip (ev env y))).length
  · rw [List.getElem?_append_left hj] at hp
    rw [Array.getElem?_append_left (by omega)] at hv
    by_cases hj2 : j < first.length
    · rw [List.getElem?_append_left hj2] at hp
      rw [Array.getElem?_append_left (by omega)] at hv
      have := h3 j p v hp hv
      exact ⟨rT this _, this.strip⟩
    · rw [List.getElem?_append_right (by omega)] at hp
      rw [Array.getElem?_append_right (by omega)] at hv
      simp only [List.getElem?_map, Option.map_eq_some_iff] at hp
      obtain ⟨y, hy, rfl⟩ := hp
      rw [h1] at hv
      simp only [Array.getElem?_map, Option.map_eq_some_iff] at hv
      obtain ⟨y', hy', rfl⟩ := hv
      have : y = y' := by
        rw [Array.getElem?_toList] at hy
        rw [hy] at hy'
        exact Option.some.inj hy'
      subst this
      exact ⟨(ev_rep hi hT y).strip, u7p _⟩
  · rw [List.getElem?_append_right (by omega)] at hp
    rw [Array.getElem?_append_right (by omega)] at hv
    rw [hsz1] at hv
    have := h4 _ p v hp hv
    exact ⟨rT this _, this.strip⟩
theorem u7m (i n : Nat) : List.range' i (n + 1) = i :: List.range' (i + 1) n := rfl
variable {c : Ctx} {CDN : Option PV → CallT} {Q : Exit → Act → World → Prop} {g0 : G} {w0 : World} {out : Out PV}
theorem u53 (hC : CSound c.P c.es c.C) (hrc : c.rc = none) (hle : ∀ r f a, Le (c.CD r f a) (CDN r f a)) {ops : Array Oper} {k : Env → M PV} (hleaf : Leaf CDN c g0 w0 out k (Q .normal)) (hpl : u6e CDN c g0 w0 out fun ch => Q (.panic ch)) :
    ∀ (l : List Oper) (i : Nat) (env : Env) (a : Act) (w : World) (g : G) (H : Heap) (Δ : List Dfr) (o : Out PV), (∀ j, l[j]? = ops[i + j]?) → Glob g0 w0 g w → Sta c g H env a w Δ → dOps c ops l env k H = some o → unw CDN Δ o = some out →
      wpOps c.P ops Q (List.range' i l.length) a w
  | [], i, env, a, w, g, H, Δ, o, hl, hgl, hS, h, hu => hleaf Δ o g H env a w h hu hgl hS
  | q :: r, i, env, a, w, g, H, Δ, o, hl, hgl, hS, h, hu => by
    have hq : ops[i]? = some q := by
      have := hl 0
      simpa using this.symm
    have hr : ∀ j, r[j]? = ops[i + 1 + j]? := fun j => by
      have := hl (j + 1)
      simpa [Nat.add_assoc, Nat.add_comm 1 j] using this
    rw [List.length_cons, u7m]
    unfold wpOps
    rw [hq]
    dsimp only
    have other : okDst c.rc.isSome c.prot env q.dst = true → (M.bind (gval c.P c.C c.es c.rc ops env q) fun v => dOps c ops r (put c.rc ops env q v) k) H = some o →
        if Region.wanted q (yielded ops a.tmps) then q.wp c.P a w (wpOps c.P ops Q (List.range' (i + 1) r.length)) Q ∨ (q.asks c.P a w ∧ LetsOut Q) else wpOps c.P ops Q (List.range' (i + 1) r.length) (a.put q.dst undef) w := by
      intro hok hb
      unfold M.bind at hb
      cases hg : gval c.P c.C c.es c.rc ops env q H with
      | none => rw [hg] at hb; simp at hb
      | some o1 =>
        rw [hg] at hb
        have hst := ud4 (Q := Q) (next := wpOps c.P ops Q (List.range' (i + 1) r.length)) hC (.inl (by rw [hrc]; rfl)) hS hok hg (fun v H1 g' a' w' he hgl' hS' => by
            subst he
            exact u53 hC hrc hle hleaf hpl r (i + 1) _ a' w' g' H1 Δ o hr (hgl.trans hgl') hS' hb hu) (fun v H1 g' w' cv he hgl' hS' hv => by
            subst he
            simp only [Option.some.injEq] at hb
            subst hb
            exact hpl Δ v H1 g' env a w' cv hu (hgl.trans hgl') hS' hv)
        split
        · rename_i hw
          rw [if_pos hw] at hst
          exact .inl hst
        · rename_i hw
          rw [if_neg hw] at hst
          exact hst
    rw [u38] at h
    obtain ⟨hok, h⟩ := u02 h
    obtain ⟨dst, op, ty, pos, after, guard⟩ := q
    cases op with
    | defer cl =>
      obtain ⟨callee, args, tys⟩ := cl
      cases callee with
      | value f =>
        dsimp only at h
        cases guard with
        | some jw => exact (u00 (H := H) h).elim
        | none =>
          dsimp only at h
          obtain ⟨hgd, h2⟩ := u02 h
          simp only [Bool.and_eq_true, Bool.not_eq_true', List.all_eq_true] at hgd
          obtain ⟨fid, first, caps, o2, hfe, hrest, hds⟩ := ud5 h2
          obtain ⟨fv, cv, hfv, hargs⟩ := ufy (args := args) hS.inv hS.tok hfe
          rw [if_pos (by simp [Region.wanted])]
          refine .inl ?_
          unfold Oper.wp
          have hrun : (execOp a.eval ⟨dst, .defer ⟨.value f, args, tys⟩, ty, pos, after, none⟩).run c.P w = .ok (.defer { target := .fn (.func fid) cv, args := fv ++ args.map a.eval }) w := by
            have : execOp a.eval ⟨dst, .defer ⟨.value f, args, tys⟩, ty, pos, after, none⟩ = (do pure (.defer (← Deferred.ofValue (a.eval f) (args.map a.eval))) : Sem Next) := rfl
            rw [this, hfv]
            rfl
          rw [hrun, Oper.upon_defer]
          have hput := hS.put (o := ⟨dst, .defer ⟨.value f, args, tys⟩, ty, pos, after, none⟩) (ops := ops) (v := .undef) (cv := undef) (.inr rfl) hok hS.inv (hS.tok.giveUp _) (fun t _ => .one (.undef _)) (IoLe.refl _) (fun _ _ _ h => h) rfl
          have hkeep : ∀ t ∈ c.prot, ∀ id off, env.getD t .undef = .ptr id off → (put c.rc ops env ⟨dst, .defer ⟨.value f, args, tys⟩, ty, pos, after, none⟩ .undef).getD t .undef = .ptr id off := by
            intro t ht id off he
            exact ul3 (.inr rfl) hok ht he
          refine u53 hC hrc hle hleaf hpl r (i + 1) _ _ w g H (⟨fid, first ++ (args.toList.map fun y => strip (ev env y)) ++ caps, c.res env⟩ :: Δ) o2 hr hgl ⟨hS.inv, ?_, ?_, hS.md⟩ hrest ?_
          · have : ({ a with defers := { target := .fn (.func fid) cv, args := fv ++ args.map a.eval } :: a.defers } : Act).put dst undef = { (a.put dst undef) with defers := { target := .fn (.func fid) cv, args := fv ++ args.map a.eval } :: a.defers } := by cases dst <;> rfl
            rw [this]
            exact hput.tok
          · have : ({ a with defers := { target := .fn (.func fid) cv, args := fv ++ args.map a.eval } :: a.defers } : Act).put dst undef = { (a.put dst undef) with defers := { target := .fn (.func fid) cv, args := fv ++ args.map a.eval } :: a.defers } := by cases dst <;> rfl
            rw [this]
            refine ⟨⟨cv, fv ++ args.map a.eval, rfl, hargs⟩, ⟨?_, env, rfl, fun t ht => ?_⟩, ?_⟩
            · intro hc
              rw [hc] at hgd
              simp at hgd
            · have hp := hgd.2 t ht
              cases hv : env.getD t .undef <;> rw [hv] at hp <;> simp [isPtr] at hp
              exact ⟨_, _, rfl, hkeep t ht _ _ hv⟩
            · have := hput.defs
              have e : (a.put dst undef).defers = a.defers := by cases dst <;> rfl
              rw [e] at this
              exact this
          · show (dstep CDN _ o2).bind (unw CDN Δ) = some out
            rw [uiz hle hds]
            exact hu
      | invoke rv m => exact other hok h
      | builtin b => exact other hok h
    | _ => exact other hok h
end Go.Proofs.YtjcffopjohkmaaaDoor.Pi
