/- Regions that draw their order: single steps that may change places (the beginning; to be joined with D1's den). -/
import Derived.Test.YtofbbijagbpicaaPiB
import Derived.Orders
import Derived.Recover
import Derived.Test.YtofbbijagbpicaaPiA
import Derived.Below
import Derived.ChangeSlices
import Derived.SizedLaws
namespace Go.Proofs.Ytofbbijagbpicaa.Pi
set_option linter.unusedVariables false
set_option linter.unusedSimpArgs false
/-- Two environments agree on these. -/
def AgreeOn (l : List Tmp) (e e' : Env) : Prop := ∀ t ∈ l, e.getD t .undef = e'.getD t .undef
theorem ev_congr {e e' : Env} {x : Operand} (h : ∀ t, x = .tmp t → e.getD t .undef = e'.getD t .undef) : ev e x = ev e' x := by
  cases x with
  | tmp t => exact h t rfl
  | _ => rfl
theorem looks_ev {ops : Array Oper} {o : Oper} {e e' : Env} (h : AgreeOn (o.looksAt ops) e e') : ∀ x ∈ o.op.operands, ev e x = ev e' x := by
  intro x hx
  refine ev_congr fun t ht => h t ?_
  subst ht
  exact List.mem_append_left _ (List.mem_filterMap.2 ⟨.tmp t, by simpa using hx, rfl⟩)
theorem parts_congr {P : Program} {e e' : Env} {place : Nat → Option (Nat × Nat)} {ps : Array (Nat × Operand)} (h : ∀ x ∈ ps.map (·.2), ev e x = ev e' x) : parts P e place ps = parts P e' place ps := by
  unfold parts
  refine List.map_congr_left fun p hp => ?_
  obtain ⟨i, x⟩ := p
  have := h x (Array.mem_map.2 ⟨(i, x), by simpa using hp, rfl⟩)
  simp only [this]
theorem opVal_congr {P : Program} {C : CallT} {rc : Option (Option PV)} {ops : Array Oper} {o : Oper} {e e' : Env} (hr : isRecover o = false) (h : AgreeOn (o.looksAt ops) e e') : opVal P C rc ops e o = opVal P C rc ops e' o := by
  have hx := looks_ev h
  obtain ⟨dst, op, ty, pos, after, guard⟩ := o
  have pairs : ∀ ps : Array (Nat × Operand), (∀ x ∈ ps.map (·.2), ev e x = ev e' x) → (ps.toList.map fun p => ev e p.2) = (ps.toList.map fun p => ev e' p.2) := fun ps hp =>
    List.map_congr_left fun p hm => hp p.2 (Array.mem_map.2 ⟨p, by simpa using hm, rfl⟩)
  have maps : ∀ (xs : Array Operand), (∀ x ∈ xs, ev e x = ev e' x) → xs.toList.map (ev e) = xs.toList.map (ev e') := fun xs hp =>
    List.map_congr_left fun x hm => hp x (by simpa using hm)
  have mapss : ∀ (xs : Array Operand), (∀ x ∈ xs, ev e x = ev e' x) → (xs.toList.map fun x => strip (ev e x)) = (xs.toList.map fun x => strip (ev e' x)) := fun xs hp =>
    List.map_congr_left fun x hm => by rw [hp x (by simpa using hm)]
  cases op <;> simp only [Op.operands] at hx <;> unfold opVal <;> dsimp only
  case build t ps =>
    have := fun place => parts_congr (P := P) (e := e) (e' := e') (place := place) (ps := ps) (fun x hm => hx x (by simpa using hm))
    simp only [this]
  case buildSlice t n ps => rw [pairs ps fun x hm => hx x (by simpa using hm)]
  case makeFunc fn first captured =>
    cases fn with
    | func f => dsimp only; rw [maps first fun x hm => hx x (by simp [hm]), maps captured fun x hm => hx x (by simp [hm])]
    | _ => rfl
  case call c =>
    obtain ⟨callee, args, tys⟩ := c
    cases callee with
    | value f =>
      dsimp only
      rw [mapss args fun x hm => hx x (by simp [Call.operands, hm]), hx f (by simp [Call.operands])]
    | invoke r m => rfl
    | builtin b =>
      cases b <;> first | (simp [isRecover] at hr; done) | (dsimp only; rw [maps args fun x hm => hx x (by simp [Call.operands, hm])])
  case slice t x lo hi mx => cases lo <;> cases hi <;> cases mx <;> simp_all
  case next it b => cases b <;> simp_all
  all_goals (first | rfl | (simp_all; done))
theorem gval_congr {P : Program} {C : CallT} {rc : Option (Option PV)} {ops : Array Oper} {o : Oper} {e e' : Env} (hr : isRecover o = false) (h : AgreeOn (o.looksAt ops) e e') : gval P C rc ops e o = gval P C rc ops e' o := by
  unfold gval
  cases hg : o.guard with
  | none => exact opVal_congr hr h
  | some jw =>
    obtain ⟨j, want⟩ := jw
    dsimp only
    cases hd : (ops[j]?).bind (·.dst) with
    | none => rfl
    | some d =>
      dsimp only
      rw [opVal_congr hr h, h d (by unfold Oper.looksAt; rw [hg]; simp [hd])]
/-! ### One step, the heap as it was -/
def setAll (e : Env) : List (Tmp × PV) → Env
  | [] => e
  | (t, v) :: r => setAll (e.set t v) r
/-- What an operation writes where. -/
def writesN (ops : Array Oper) (o : Oper) (e : Env) (v : PV) : List (Tmp × PV) :=
  (match given ops o with
   | some (s, none) => [(s, strip (e.getD s .undef))]
   | some (s, some i) => [(s, tupDrop i (e.getD s .undef))]
   | none => []) ++ (match o.dst with | some d => [(d, v)] | none => [])
theorem put_writes {rc : Option (Option PV)} {ops : Array Oper} {o : Oper} {e : Env} {v : PV} (hr : isRecover o = false) : put rc ops e o v = setAll e (writesN ops o e v) := by
  unfold Pi.put took writesN giveUp
  rw [hr]
  simp only [Bool.false_and, cond_false]
  cases given ops o with
  | none => cases o.dst <;> rfl
  | some q =>
    obtain ⟨s, i⟩ := q
    cases i <;> cases o.dst <;> rfl
theorem setAll_append (e : Env) (a b : List (Tmp × PV)) : setAll e (a ++ b) = setAll (setAll e a) b := by
  induction a generalizing e with
  | nil => rfl
  | cons p r ih => obtain ⟨t, v⟩ := p; exact ih _
theorem setAll_get (e : Env) (l : List (Tmp × PV)) {t : Nat} (h : ∀ p ∈ l, p.1 ≠ t) : (setAll e l).getD t .undef = e.getD t .undef := by
  induction l generalizing e with
  | nil => rfl
  | cons p r ih =>
    obtain ⟨s, v⟩ := p
    show (setAll (e.set s v) r).getD t .undef = _
    rw [ih _ (fun q hq => h q (List.mem_cons_of_mem _ hq))]
    have := h (s, v) List.mem_cons_self
    simp only [List.getD_eq_getElem?_getD, List.getElem?_set_ne this]
theorem setAll_set (e : Env) (l : List (Tmp × PV)) {t : Nat} (v : PV) (h : ∀ p ∈ l, p.1 ≠ t) : setAll (e.set t v) l = (setAll e l).set t v := by
  induction l generalizing e with
  | nil => rfl
  | cons p r ih =>
    obtain ⟨s, u⟩ := p
    show setAll ((e.set t v).set s u) r = (setAll (e.set s u) r).set t v
    have hne : s ≠ t := h (s, u) List.mem_cons_self
    rw [List.set_comm _ _ (fun h => hne h.symm), ih _ (fun q hq => h q (List.mem_cons_of_mem _ hq))]
theorem setAll_comm (e : Env) (a b : List (Tmp × PV)) (h : ∀ p ∈ a, ∀ q ∈ b, p.1 ≠ q.1) : setAll (setAll e a) b = setAll (setAll e b) a := by
  induction b generalizing e with
  | nil => rfl
  | cons q r ih =>
    obtain ⟨t, v⟩ := q
    show setAll ((setAll e a).set t v) r = setAll (setAll (e.set t v) r) a
    rw [← setAll_set e a v (fun p hp => h p hp (t, v) List.mem_cons_self)]
    exact ih _ (fun p hp q hq => h p hp q (List.mem_cons_of_mem _ hq))
theorem setAll_length (e : Env) (l : List (Tmp × PV)) : (setAll e l).length = e.length := by
  induction l generalizing e with
  | nil => rfl
  | cons p r ih => obtain ⟨t, v⟩ := p; show (setAll (e.set t v) r).length = _; rw [ih]; simp
theorem writes_in {ops : Array Oper} {o : Oper} {e : Env} {v : PV} : ∀ p ∈ writesN ops o e v, p.1 ∈ wroteBy ops o := by
  intro p hp
  unfold writesN at hp
  unfold wroteBy givenTmp
  rcases List.mem_append.mp hp with h | h
  · refine List.mem_append_right _ ?_
    cases hg : given ops o with
    | none => rw [hg] at h; cases h
    | some q =>
      obtain ⟨s, i⟩ := q
      rw [hg] at h
      cases i <;> (simp only [List.mem_singleton] at h; subst h; exact List.mem_singleton.mpr rfl)
  · refine List.mem_append_left _ ?_
    cases hd : o.dst with
    | none => rw [hd] at h; cases h
    | some d => rw [hd] at h; simp only [List.mem_singleton] at h; subst h; simp
/-- The temporary that is given up is one that the operation reads. -/
theorem given_reads {ops : Array Oper} {o : Oper} : ∀ t ∈ givenTmp ops o, t ∈ o.looksAt ops := by
  intro t ht
  unfold givenTmp at ht
  cases hg : given ops o with
  | none => rw [hg] at ht; cases ht
  | some q =>
    obtain ⟨s, i⟩ := q
    rw [hg] at ht
    simp only [List.mem_singleton] at ht
    subst ht
    refine List.mem_append_left _ (List.mem_filterMap.2 ⟨.tmp t, ?_, rfl⟩)
    obtain ⟨dst, op, ty, pos, after, guard⟩ := o
    unfold given at hg
    dsimp only at hg ⊢
    split at hg
    · revert hg
      cases moves ops _ <;> intro hg <;> simp [Op.operands] at hg ⊢
      exact hg.1.symm
    · revert hg
      cases moves ops _ <;> intro hg <;> simp [Op.operands] at hg ⊢
      exact hg.1.symm
    · simp [Op.operands] at hg ⊢
      exact .inr hg.1.symm
    · simp [Op.operands] at hg ⊢
      exact hg.1.symm
    · split at hg
      · rename_i args _ _ _ hargs
        simp at hg
        simp only [Op.operands, Call.operands]
        have := Array.mem_of_getElem? hargs
        rw [hg.1] at this
        simpa using this
      · cases hg
    · cases hg
/-- One step that leaves the heap as it was. -/
def StepN (c : Ctx) (ops : Array Oper) (H : Heap) (o : Oper) (e e' : Env) : Prop :=
  okDst c.rc.isSome c.prot e o.dst = true ∧ ∃ v, gval c.P c.C c.rc ops e o H = some (.ok v H) ∧ e' = put c.rc ops e o v
def RunN (c : Ctx) (ops : Array Oper) (H : Heap) : List Nat → Env → Env → Prop
  | [], e, e' => e = e'
  | i :: r, e, e' => ∃ o e1, ops[i]? = some o ∧ StepN c ops H o e e1 ∧ RunN c ops H r e1 e'
variable {c : Ctx} {ops : Array Oper} {H : Heap}
theorem okDst_congr {b : Bool} {pr : List Tmp} {e e' : Env} {d : Option Tmp} (hl : e.length = e'.length) (h : ∀ t, d = some t → e.getD t .undef = e'.getD t .undef) : okDst b pr e d = okDst b pr e' d := by
  cases d with
  | none => rfl
  | some t => unfold okDst; dsimp only; rw [h t rfl, hl]
theorem writes_congr {o : Oper} {e e' : Env} {v : PV} (h : AgreeOn (o.looksAt ops) e e') : writesN ops o e v = writesN ops o e' v := by
  unfold writesN
  congr 1
  cases hg : given ops o with
  | none => rfl
  | some q =>
    obtain ⟨s, i⟩ := q
    have hs : s ∈ o.looksAt ops := given_reads s (by unfold givenTmp; rw [hg]; simp)
    cases i <;> (dsimp only; rw [h s hs])
theorem apart_spec {x y : Oper} (h : apartN ops x y = true) : (∀ t ∈ wroteBy ops x, t ∉ y.looksAt ops) ∧ (∀ t ∈ wroteBy ops x, t ∉ wroteBy ops y) ∧ ∀ t ∈ wroteBy ops y, t ∉ x.looksAt ops := by
  unfold apartN at h
  simp only [Bool.and_eq_true, List.all_eq_true, Bool.not_eq_true', List.contains_eq_mem, decide_eq_false_iff_not] at h
  exact ⟨fun t ht => (h.1 t ht).1, fun t ht => (h.1 t ht).2, fun t ht => h.2 t ht⟩
theorem list_set_set (l : List PV) (i : Nat) (a b : PV) : (l.set i a).set i b = l.set i b := by simp
/-- Two parts of one tuple may be taken in any order. -/
theorem exSwap {x y : Oper} {e : Env} {v u : PV} {H1 H2 : Heap} (hp : exPair x y = true) (g1 : gval c.P c.C c.rc ops e x H = some (.ok v H1)) (g2 : gval c.P c.C c.rc ops (put c.rc ops e x v) y H1 = some (.ok u H2))
    (k1 : okDst c.rc.isSome c.prot e x.dst = true) (k2 : okDst c.rc.isSome c.prot (put c.rc ops e x v) y.dst = true) :
    H1 = H ∧ H2 = H ∧ okDst c.rc.isSome c.prot e y.dst = true ∧ okDst c.rc.isSome c.prot (put c.rc ops e y u) x.dst = true ∧ (∀ K, gval c.P c.C c.rc ops e y K = some (.ok u K)) ∧ (∀ K, gval c.P c.C c.rc ops (put c.rc ops e y u) x K = some (.ok v K)) ∧
      put c.rc ops (put c.rc ops e y u) x v = put c.rc ops (put c.rc ops e x v) y u ∧ (∀ e, touch e x = .no) ∧ (∀ e, touch e y = .no) := by
  obtain ⟨dx, ox, tx, sx, ax, gx⟩ := x
  obtain ⟨dy, oy, ty, sy, ay, gy⟩ := y
  unfold exPair at hp
  split at hp
  · rename_i s i t j a b e1 e2 e3 e4
    dsimp only at e1 e2 e3 e4
    subst e1 e2 e3 e4
    simp only [Bool.and_eq_true, beq_iff_eq, bne_iff_ne, ne_eq, Option.isNone_iff_eq_none] at hp
    obtain ⟨rfl, hij, hab, has, hbs, rfl, rfl⟩ := hp
    have px : ∀ (e : Env) (w : PV), put c.rc ops e ⟨some a, .extract (.tmp s) i, tx, sx, ax, none⟩ w = (e.set s (tupDrop i (e.getD s .undef))).set a w := by
      intro e w
      unfold Pi.put took
      simp [isRecover, given, giveUp, putDst]
    have py : ∀ (e : Env) (w : PV), put c.rc ops e ⟨some b, .extract (.tmp s) j, ty, sy, ay, none⟩ w = (e.set s (tupDrop j (e.getD s .undef))).set b w := by
      intro e w
      unfold Pi.put took
      simp [isRecover, given, giveUp, putDst]
    have gx : ∀ (e : Env), gval c.P c.C c.rc ops e ⟨some a, .extract (.tmp s) i, tx, sx, ax, none⟩ = ex i (e.getD s .undef) := fun e => rfl
    have gy : ∀ (e : Env), gval c.P c.C c.rc ops e ⟨some b, .extract (.tmp s) j, ty, sy, ay, none⟩ = ex j (e.getD s .undef) := fun e => rfl
    rw [gx] at g1
    rw [gy, px] at g2
    rw [px] at k2
    have hsl : s < e.length := by
      refine Nat.lt_of_not_le fun hle => ?_
      rw [List.getD_eq_getElem?_getD, List.getElem?_eq_none hle] at g1
      exact (fail_ne (H := H) g1).elim
    have hs1 : (((e.set s (tupDrop i (e.getD s .undef))).set a v).getD s .undef) = tupDrop i (e.getD s .undef) := by
      rw [List.getD_eq_getElem?_getD, List.getElem?_set_ne has, List.getElem?_set_self hsl]; rfl
    rw [hs1] at g2
    generalize hes : e.getD s .undef = es at *
    cases es with
    | tup vs =>
      unfold ex at g1
      dsimp only at g1
      have g2 : (match (vs.set i (stripC (vs.getD i .undef)))[j]? with | some v => M.pure v | none => M.fail) H1 = some (.ok u H2) := g2
      rw [List.getElem?_set_ne hij] at g2
      cases hvi : vs[i]? with
      | none => rw [hvi] at g1; exact (fail_ne (H := H) g1).elim
      | some vi =>
        rw [hvi] at g1
        cases hvj : vs[j]? with
        | none => rw [hvj] at g2; exact (fail_ne (H := H1) g2).elim
        | some vj =>
          rw [hvj] at g2
          simp only [M.pure, Option.some.injEq, Out.ok.injEq] at g1 g2
          obtain ⟨rfl, rfl⟩ := g1
          obtain ⟨rfl, rfl⟩ := g2
          have hlen1 : ∀ w w' : PV, ((e.set s w).set a w').length = e.length := by simp
          refine ⟨rfl, rfl, ?_, ?_, fun K => ?_, fun K => ?_, ?_, fun _ => rfl, fun _ => rfl⟩
          · rw [← k2]
            refine okDst_congr (by simp) fun t ht => ?_
            cases ht
            simp only [List.getD_eq_getElem?_getD]
            rw [List.getElem?_set_ne hab, List.getElem?_set_ne (fun h => hbs h.symm)]
          · rw [← k1, py]
            refine okDst_congr (by simp) fun t ht => ?_
            cases ht
            simp only [List.getD_eq_getElem?_getD]
            rw [List.getElem?_set_ne (fun h => hab h.symm), List.getElem?_set_ne (fun h => has h.symm)]
          · rw [gy, hes]
            show (match vs[j]? with | some v => M.pure v | none => M.fail) K = _
            rw [hvj]; rfl
          · rw [gx, py, hes]
            have : (((e.set s (tupDrop j (.tup vs))).set b vj).getD s .undef) = tupDrop j (.tup vs) := by
              rw [List.getD_eq_getElem?_getD, List.getElem?_set_ne hbs, List.getElem?_set_self hsl]; rfl
            rw [this]
            show (match (vs.set j (stripC (vs.getD j .undef)))[i]? with | some v => M.pure v | none => M.fail) K = _
            rw [List.getElem?_set_ne (fun h => hij h.symm), hvi]; rfl
          · rw [px, py, px, py, hes, hs1]
            have hs2 : (((e.set s (tupDrop j (.tup vs))).set b vj).getD s .undef) = tupDrop j (.tup vs) := by
              rw [List.getD_eq_getElem?_getD, List.getElem?_set_ne hbs, List.getElem?_set_self hsl]; rfl
            rw [hs2]
            have ht : tupDrop i (tupDrop j (.tup vs)) = tupDrop j (tupDrop i (.tup vs)) := by
              simp only [tupDrop, List.getD_eq_getElem?_getD, PV.tup.injEq]
              rw [List.getElem?_set_ne (fun h => hij h.symm), List.getElem?_set_ne hij, List.set_comm _ _ hij]
            rw [ht]
            rw [List.set_comm (l := e.set s (tupDrop j (.tup vs))) _ _ hbs, List.set_set, List.set_comm (l := e.set s (tupDrop i (.tup vs))) _ _ has, List.set_set, List.set_comm _ _ hab]
    | _ => exact (fail_ne (H := H) g1).elim
  · cases hp
/-- Steps apart may change places. -/
theorem swapN {x y : Oper} {e e1 e2 : Env} (hx : isRecover x = false) (hy : isRecover y = false) (ha : apartN ops x y = true) (h1 : StepN c ops H x e e1) (h2 : StepN c ops H y e1 e2) :
    ∃ e1', StepN c ops H y e e1' ∧ StepN c ops H x e1' e2 := by
  obtain ⟨a1, a2, a3⟩ := apart_spec ha
  obtain ⟨k1, v, g1, rfl⟩ := h1
  obtain ⟨k2, u, g2, rfl⟩ := h2
  rw [put_writes hx] at k2 g2 ⊢
  rw [put_writes hy]
  have agY : AgreeOn (y.looksAt ops) (setAll e (writesN ops x e v)) e := fun t ht => setAll_get e _ fun p hp he => a1 p.1 (writes_in p hp) (he ▸ ht)
  have agX : AgreeOn (x.looksAt ops) (setAll e (writesN ops y e u)) e := fun t ht => setAll_get e _ fun p hp he => a3 p.1 (writes_in p hp) (he ▸ ht)
  refine ⟨setAll e (writesN ops y e u), ⟨?_, u, ?_, (put_writes hy).symm⟩, ?_, v, ?_, ?_⟩
  · rw [← k2]
    refine okDst_congr (by rw [setAll_length]) fun t ht => (setAll_get e _ fun p hp he => ?_).symm
    refine a2 p.1 (writes_in p hp) ?_
    rw [he]
    exact List.mem_append_left _ (by rw [ht]; simp)
  · rw [← g2]
    exact congrFun (gval_congr hy agY).symm H
  · rw [← k1]
    refine okDst_congr (by rw [setAll_length]) fun t ht => setAll_get e _ fun p hp he => ?_
    refine a2 t (List.mem_append_left _ (by rw [ht]; simp)) ?_
    rw [← he]
    exact writes_in p hp
  · rw [← g1]
    exact congrFun (gval_congr hx agX) H
  · rw [put_writes hx, writes_congr agX, writes_congr agY]
    exact setAll_comm e _ _ fun p hp q hq he => a2 p.1 (writes_in p hp) (he ▸ writes_in q hq)
/-- One that is apart from all ahead of it may come first. -/
theorem swapE {x y : Oper} {e e1 e2 : Env} (hx : isRecover x = false) (hy : isRecover y = false) (ha : apartE ops x y = true) (h1 : StepN c ops H x e e1) (h2 : StepN c ops H y e1 e2) :
    ∃ e1', StepN c ops H y e e1' ∧ StepN c ops H x e1' e2 := by
  unfold apartE at ha
  rw [Bool.or_eq_true] at ha
  rcases ha with ha | ha
  · exact swapN hx hy ha h1 h2
  · obtain ⟨k1, v, g1, rfl⟩ := h1
    obtain ⟨k2, u, g2, rfl⟩ := h2
    obtain ⟨_, _, q1, q2, q3, q4, q5, _⟩ := exSwap ha g1 g2 k1 k2
    exact ⟨_, ⟨q1, u, q3 H, rfl⟩, q2, v, q4 H, q5.symm⟩
theorem frontN {i : Nat} {oi : Oper} (hi : ops[i]? = some oi) (hri : isRecover oi = false) (hr : ∀ (j : Nat) (o : Oper), ops[j]? = some o → isRecover o = false) : ∀ (A B : List Nat) (e e' : Env),
    (∀ a ∈ A, ∀ oa, ops[a]? = some oa → apartE ops oa oi = true) → RunN c ops H (A ++ i :: B) e e' → RunN c ops H (i :: (A ++ B)) e e'
  | [], B, e, e', ha, h => h
  | a :: A, B, e, e', ha, h => by
    obtain ⟨oa, e1, hoa, hs, hrun⟩ := h
    obtain ⟨o, e2, ho, hs2, hrun2⟩ := frontN hi hri hr A B e1 e' (fun b hb => ha b (List.mem_cons_of_mem _ hb)) hrun
    rw [hi] at ho
    cases ho
    obtain ⟨e1', s1, s2⟩ := swapE (hr a oa hoa) hri (ha a List.mem_cons_self oa hoa) hs hs2
    exact ⟨oi, e1', hi, s1, oa, e2, hoa, s2, hrun2⟩
/-! ### What must come before what -/
theorem maskB_spec (acc : List Nat) (o : Oper) (i : Nat) (h : (maskB acc o).testBit i = true) : ∃ e ∈ o.after.toList, Region.binds .any e = true ∧ (i = e.on ∨ (acc.getD e.on 0).testBit i = true) := by
  have key : ∀ (l : List Edge) (s : Nat), (l.foldl (fun s e => bif Region.binds .any e then s ||| (2 ^ e.on ||| acc.getD e.on 0) else s) s).testBit i = true →
      s.testBit i = true ∨ ∃ e ∈ l, Region.binds .any e = true ∧ (i = e.on ∨ (acc.getD e.on 0).testBit i = true) := by
    intro l
    induction l with
    | nil => exact fun s h => .inl h
    | cons e r ih =>
      intro s h
      rcases ih _ h with h1 | ⟨q, hq, h2⟩
      · dsimp only at h1
        cases hb : Region.binds .any e with
        | false => rw [hb] at h1; exact .inl h1
        | true =>
          rw [hb] at h1
          simp only [cond_true, Nat.testBit_or, Bool.or_eq_true] at h1
          rcases h1 with h1 | h1 | h1
          · exact .inl h1
          · refine .inr ⟨e, List.mem_cons_self, hb, .inl ?_⟩
            rw [Nat.testBit_two_pow] at h1
            have h2 : e.on = i := by simpa using h1
            exact h2.symm
          · exact .inr ⟨e, List.mem_cons_self, hb, .inr h1⟩
      · exact .inr ⟨q, List.mem_cons_of_mem _ hq, h2⟩
  rcases key _ _ h with h1 | h1
  · simp at h1
  · exact h1
theorem befs_spec : ∀ (l : List Oper) (pre : List Oper) (acc : List Nat), acc.length = pre.length →
    (∀ (j : Nat) (o : Oper) (i : Nat), pre[j]? = some o → (acc.getD j 0).testBit i = true → ∃ e ∈ o.after.toList, Region.binds .any e = true ∧ (i = e.on ∨ (acc.getD e.on 0).testBit i = true)) →
    ∀ (j : Nat) (o : Oper) (i : Nat), (pre ++ l)[j]? = some o → ((befs l acc).getD j 0).testBit i = true → ∃ e ∈ o.after.toList, Region.binds .any e = true ∧ (i = e.on ∨ ((befs l acc).getD e.on 0).testBit i = true)
  | [], pre, acc, hl, h, j, o, i, ho, hb => by
    rw [List.append_nil] at ho
    exact h j o i ho hb
  | q :: r, pre, acc, hl, h, j, o, i, ho, hb => by
    refine befs_spec r (pre ++ [q]) (acc ++ [maskB acc q]) (by simp [hl]) (fun j o i ho hb => ?_) j o i (by simpa using ho) hb
    have mono : ∀ k, (acc.getD k 0).testBit i = true → ((acc ++ [maskB acc q]).getD k 0).testBit i = true := by
      intro k hk
      rw [List.getD_eq_getElem?_getD] at hk ⊢
      by_cases hlt : k < acc.length
      · rw [List.getElem?_append_left hlt]; exact hk
      · rw [List.getElem?_eq_none (by omega)] at hk
        simp at hk
    by_cases hj : j < pre.length
    · rw [List.getElem?_append_left hj] at ho
      rw [List.getD_eq_getElem?_getD, List.getElem?_append_left (by omega), ← List.getD_eq_getElem?_getD] at hb
      obtain ⟨e, he, h1, h2⟩ := h j o i ho hb
      exact ⟨e, he, h1, h2.imp id (mono _)⟩
    · rw [List.getElem?_append_right (by omega)] at ho
      have : j - pre.length = 0 := by
        have := (List.getElem?_eq_some_iff.mp ho).1
        simp at this
        omega
      rw [this] at ho
      cases ho
      have hje : j = acc.length := by omega
      subst hje
      rw [List.getD_eq_getElem?_getD, List.getElem?_append_right (Nat.le_refl _)] at hb
      simp at hb
      obtain ⟨e, he, h1, h2⟩ := maskB_spec acc q i hb
      exact ⟨e, he, h1, h2.imp id (mono _)⟩
theorem commB_spec (h : commB ops = true) {j : Nat} {y : Oper} (hj : ops[j]? = some y) : isRecover y = false ∧ isDeferGo y = false ∧ (∀ e ∈ y.after.toList, Region.binds .any e = true → e.on < j) ∧
    ∀ (i : Nat) (x : Oper), i < j → ops[i]? = some x → ((befs ops.toList []).getD j 0).testBit i = true ∨ apartE ops x y = true := by
  have hlt : j < ops.size := (Array.getElem?_eq_some_iff.mp hj).1
  have h1 := List.all_eq_true.mp h j (List.mem_range.mpr hlt)
  rw [hj] at h1
  simp only [Bool.and_eq_true, Bool.not_eq_true', List.all_eq_true, Bool.or_eq_true, decide_eq_true_eq] at h1
  refine ⟨h1.1, h1.2.1, fun e he hb => ?_, fun i x hi hx => ?_⟩
  · rcases h1.2.2.1 e he with h2 | h2
    · rw [hb] at h2; cases h2
    · exact h2
  · rcases h1.2.2.2 i (List.mem_range.mpr hi) with h2 | h2
    · exact .inl h2
    · rw [hx] at h2; exact .inr h2
theorem befs_all {j : Nat} {o : Oper} {i : Nat} (hj : ops[j]? = some o) (hb : ((befs ops.toList []).getD j 0).testBit i = true) :
    ∃ e ∈ o.after.toList, Region.binds .any e = true ∧ (i = e.on ∨ ((befs ops.toList []).getD e.on 0).testBit i = true) :=
  befs_spec ops.toList [] [] rfl (fun j o i h => by simp at h) j o i (by simpa using hj) hb
/-- What is not listed yet, in the order of the text. -/
def restOf (ops : Array Oper) (listed : Array Bool) : List Nat := (List.range ops.size).filter fun i => !listed.getD i true
theorem rest_set {listed : Array Bool} {i : Nat} (hs : listed.size = ops.size) (hi : i < ops.size) : restOf ops (listed.setIfInBounds i true) = (restOf ops listed).filter (fun k => decide (k ≠ i)) := by
  unfold restOf
  rw [List.filter_filter]
  refine List.filter_congr fun k hk => ?_
  by_cases h : k = i
  · subst h
    simp [Array.getD_eq_getD_getElem?, Array.getElem?_setIfInBounds_self_of_lt (by omega : k < listed.size)]
  · simp [Array.getD_eq_getD_getElem?, Array.getElem?_setIfInBounds_ne (fun e => h e.symm), h]
theorem front_filter {i : Nat} {l : List Nat} (hn : l.Nodup) (hi : i ∈ l) : ∃ A B, l = A ++ i :: B ∧ l.filter (fun k => decide (k ≠ i)) = A ++ B := by
  obtain ⟨A, B, rfl⟩ := List.append_of_mem hi
  refine ⟨A, B, rfl, ?_⟩
  rw [List.nodup_append] at hn
  obtain ⟨h1, h2, h3⟩ := hn
  rw [List.filter_append, List.filter_cons]
  simp only [ne_eq, not_true_eq_false, decide_false, Bool.false_eq_true, if_false]
  congr 1
  · exact List.filter_eq_self.mpr fun a ha => by simpa using h3 a ha i List.mem_cons_self
  · refine List.filter_eq_self.mpr fun a ha => ?_
    have := (List.nodup_cons.mp h2).1
    have : a ≠ i := fun e => this (e ▸ ha)
    simpa using this
/-- A run in the order of the text, read off. -/
theorem runN_of {k : Env → M PV} {out : Out PV} : ∀ (l : List Oper) (i : Nat) (env : Env), (∀ j, l[j]? = ops[i + j]?) → dOpsN c ops l env k H = some out → ∃ e', RunN c ops H (List.range' i l.length) env e' ∧ k e' H = some out
  | [], i, env, hl, h => ⟨env, rfl, h⟩
  | o :: r, i, env, hl, h => by
    rw [dOpsN_cons] at h
    obtain ⟨hok, h⟩ := guardM_some h
    obtain ⟨v, h1, h2⟩ := nb_some.mp h
    obtain ⟨e', hr, hk⟩ := runN_of r (i + 1) _ (fun j => by
      have := hl (j + 1)
      rw [List.getElem?_cons_succ] at this
      rw [this]
      congr 1
      omega) h2
    have ho : ops[i]? = some o := by
      have := hl 0
      simpa using this.symm
    exact ⟨e', ⟨o, _, ho, ⟨hok, v, h1, rfl⟩, hr⟩, hk⟩
variable {CDN : Option PV → CallT} {Q : Exit → Act → World → Prop} {g0 : G} {w0 : World}
/-- Whatever is drawn, if what is told allows it. -/
theorem any_soundR (hC : CSound c.P c.C) (hcm : commB ops = true) {Δ : List Dfr} {R : List Nat → Env → Heap → Prop}
    (hfront : ∀ (A : List Nat) (i : Nat) (B : List Nat) (oi : Oper) (e : Env) (H : Heap), ops[i]? = some oi → (∀ a ∈ A, ∀ oa, ops[a]? = some oa → apartE ops oa oi = true) → (∀ k ∈ A ++ B, ((befs ops.toList []).getD i 0).testBit k = false) → R (A ++ i :: B) e H →
      okDst c.rc.isSome c.prot e oi.dst = true ∧ ∃ v H1, gval c.P c.C c.rc ops e oi H = some (.ok v H1) ∧ R (A ++ B) (put c.rc ops e oi v) H1)
    (hleaf : ∀ e H g a w, R [] e H → Glob g0 w0 g w → Sta c g H e a w Δ → Q .normal a w) :
    ∀ (fuel : Nat) (listed : Array Bool) (env : Env) (H : Heap) (a : Act) (w : World) (g : G), listed.size = ops.size → (restOf ops listed).length ≤ fuel →
      (∀ (j i : Nat), j < ops.size → listed.getD j true = true → ((befs ops.toList []).getD j 0).testBit i = true → i < ops.size → listed.getD i true = true) →
      R (restOf ops listed) env H → Glob g0 w0 g w → Sta c g H env a w Δ → wpAny c.P .any ops Q fuel listed a w := by
  -- nothing ready: nothing left
  have empty : ∀ (listed : Array Bool), listed.size = ops.size → Region.ready .any ops listed = [] → restOf ops listed = [] := by
    intro listed hsz hr
    cases hrest : restOf ops listed with
    | nil => rfl
    | cons i r =>
      exfalso
      have hm : i ∈ restOf ops listed := by rw [hrest]; exact List.mem_cons_self
      have hm' := List.mem_filter.mp hm
      have hlt : i < ops.size := List.mem_range.mp hm'.1
      have hsorted : (restOf ops listed).Pairwise (· < ·) := List.pairwise_lt_range.filter _
      have hmin : ∀ k, k < i → listed.getD k true = true := by
        intro k hk
        cases hlk : listed.getD k true with
        | true => rfl
        | false =>
          exfalso
          have : k ∈ restOf ops listed := List.mem_filter.mpr ⟨List.mem_range.mpr (by omega), by rw [hlk]; rfl⟩
          rw [hrest] at this hsorted
          rcases List.mem_cons.mp this with h | h
          · omega
          · have := (List.pairwise_cons.mp hsorted).1 k h
            omega
      have hready : i ∈ Region.ready .any ops listed := by
        unfold Region.ready
        refine List.mem_filter.mpr ⟨List.mem_range.mpr hlt, ?_⟩
        rw [Bool.and_eq_true]
        refine ⟨hm'.2, ?_⟩
        rw [Array.getElem?_eq_getElem hlt]
        simp only [Option.map_some, Option.getD_some]
        rw [Array.all_eq_true']
        intro e he
        rw [Bool.or_eq_true]
        cases hb : Region.binds .any e with
        | false => exact .inl rfl
        | true =>
          have h1 := (commB_spec hcm (Array.getElem?_eq_getElem hlt)).2.2.1 e (by simpa using he) hb
          have h2 := hmin e.on h1
          refine .inr ?_
          rw [Array.getD_eq_getD_getElem?] at h2 ⊢
          rw [Array.getElem?_eq_getElem (by omega : e.on < listed.size)] at h2 ⊢
          exact h2
      rw [hr] at hready
      cases hready
  intro fuel
  induction fuel with
  | zero =>
    intro listed env H a w g hsz hlen hdc hrun hgl hS
    have h0 : restOf ops listed = [] := List.eq_nil_of_length_eq_zero (by omega)
    rw [h0] at hrun
    refine ⟨?_, hleaf env H g a w hrun hgl hS⟩
    unfold restOf at h0
    unfold Region.ready
    refine List.filter_eq_nil_iff.mpr fun i hi => ?_
    have := List.filter_eq_nil_iff.mp h0 i hi
    simp only [Bool.and_eq_true, not_and] at this ⊢
    exact fun h => absurd h this
  | succ fuel ih =>
    intro listed env H a w g hsz hlen hdc hrun hgl hS
    refine ⟨fun h0 => ?_, fun i hi => ?_⟩
    · rw [empty listed hsz h0] at hrun
      exact hleaf env H g a w hrun hgl hS
    · have hi' := List.mem_filter.mp hi
      have hlt : i < ops.size := List.mem_range.mp hi'.1
      have hi2 := hi'.2
      rw [Bool.and_eq_true] at hi2
      obtain ⟨hun, hedges⟩ := hi2
      have hoi : ops[i]? = some ops[i] := Array.getElem?_eq_getElem hlt
      have hmem : i ∈ restOf ops listed := List.mem_filter.mpr ⟨List.mem_range.mpr hlt, hun⟩
      have hnd : (restOf ops listed).Nodup := List.nodup_range.filter _
      obtain ⟨A, B, hAB, hfil⟩ := front_filter hnd hmem
      have hedge : ∀ e ∈ ops[i].after.toList, Region.binds .any e = true → listed.getD e.on true = true := by
        intro e he hb
        rw [hoi] at hedges
        simp only [Option.map_some, Option.getD_some] at hedges
        rw [Array.all_eq_true'] at hedges
        have := hedges e (by simpa using he)
        rw [hb] at this
        simp only [Bool.not_true, Bool.false_or] at this
        rw [Array.getD_eq_getD_getElem?] at this ⊢
        cases hq : listed[e.on]? with
        | none => rfl
        | some b => rw [hq] at this; exact this
      have hbef : ∀ k, ((befs ops.toList []).getD i 0).testBit k = true → k < ops.size → listed.getD k true = true := by
        intro k hk hks
        obtain ⟨e, he, hb, h1⟩ := befs_all hoi hk
        have hel := hedge e he hb
        have hei := (commB_spec hcm hoi).2.2.1 e he hb
        rcases h1 with rfl | h1
        · exact hel
        · exact hdc e.on k (by omega) hel h1 hks
      rw [hAB] at hrun
      have happ : ∀ k ∈ A, ∀ ok, ops[k]? = some ok → apartE ops ok ops[i] = true := by
        intro k hk ok hok
        have hkm : k ∈ restOf ops listed := by rw [hAB]; exact List.mem_append_left _ hk
        have hkf := List.mem_filter.mp hkm
        have hsorted : (A ++ i :: B).Pairwise (· < ·) := by rw [← hAB]; exact List.pairwise_lt_range.filter _
        have hki : k < i := (List.pairwise_append.mp hsorted).2.2 k hk i List.mem_cons_self
        rcases (commB_spec hcm hoi).2.2.2 k ok hki hok with h1 | h1
        · have := hbef k h1 (by omega)
          rw [this] at hkf
          cases hkf.2
        · exact h1
      have hnb : ∀ k ∈ A ++ B, ((befs ops.toList []).getD i 0).testBit k = false := by
        intro k hk
        cases hb : ((befs ops.toList []).getD i 0).testBit k with
        | false => rfl
        | true =>
          exfalso
          have hkm : k ∈ restOf ops listed := by
            rw [hAB]
            rcases List.mem_append.mp hk with h | h
            · exact List.mem_append_left _ h
            · exact List.mem_append_right _ (List.mem_cons_of_mem _ h)
          have hkf := List.mem_filter.mp hkm
          have := hbef k hb (List.mem_range.mp hkf.1)
          rw [this] at hkf
          cases hkf.2
      obtain ⟨hok, v, H2, hg, hrun2⟩ := hfront A i B ops[i] env H hoi happ hnb hrun
      have hst := op_step (Q := Q) (next := wpAny c.P .any ops Q fuel (listed.setIfInBounds i true)) hC (.inr (commB_spec hcm hoi).1) hS hok hg (fun v' H1 g' a' w' he hgl' hS' => by
        cases he
        refine ih _ _ _ a' w' g' (by simpa using hsz) ?_ ?_ ?_ (hgl.trans hgl') hS'
        · rw [rest_set hsz hlt, hfil]
          rw [hAB] at hlen
          simp only [List.length_append, List.length_cons] at hlen ⊢
          omega
        · intro j k hj hl hb hk
          rw [Array.getD_eq_getD_getElem?] at hl ⊢
          by_cases hki : k = i
          · subst hki
            rw [Array.getElem?_setIfInBounds_self_of_lt (by omega)]
            rfl
          · rw [Array.getElem?_setIfInBounds_ne (fun e => hki e.symm), ← Array.getD_eq_getD_getElem?]
            by_cases hji : j = i
            · subst hji
              exact hbef k hb hk
            · rw [Array.getElem?_setIfInBounds_ne (fun e => hji e.symm), ← Array.getD_eq_getD_getElem?] at hl
              exact hdc j k hj hl hb hk
        · rw [rest_set hsz hlt, hfil]
          exact hrun2) (fun v' H1 g' w' cv he => by cases he)
      unfold wpOp
      rw [hoi]
      dsimp only
      split
      · rename_i hw
        rw [if_pos hw] at hst
        exact .inl hst
      · rename_i hw
        rw [if_neg hw] at hst
        exact hst
theorem any_sound (hC : CSound c.P c.C) (hcm : commB ops = true) {e' : Env} {Δ : List Dfr} (hleaf : ∀ g a w, Glob g0 w0 g w → Sta c g H e' a w Δ → Q .normal a w) :
    ∀ (fuel : Nat) (listed : Array Bool) (env : Env) (a : Act) (w : World) (g : G), listed.size = ops.size → (restOf ops listed).length ≤ fuel →
      (∀ (j i : Nat), j < ops.size → listed.getD j true = true → ((befs ops.toList []).getD j 0).testBit i = true → i < ops.size → listed.getD i true = true) →
      RunN c ops H (restOf ops listed) env e' → Glob g0 w0 g w → Sta c g H env a w Δ → wpAny c.P .any ops Q fuel listed a w :=
  fun fuel listed env a w g h1 h2 h3 h4 h5 h6 => any_soundR hC hcm (R := fun l e K => K = H ∧ RunN c ops H l e e')
    (fun A i B oi e K hi ha _ hr => by
      obtain ⟨rfl, hr⟩ := hr
      obtain ⟨o, e1, ho, ⟨hok, v, hg, rfl⟩, hrun2⟩ := frontN hi (commB_spec hcm hi).1 (fun j o hj => (commB_spec hcm hj).1) A B e e' ha hr
      rw [hi] at ho
      cases ho
      exact ⟨hok, v, K, hg, rfl, hrun2⟩)
    (fun e K g a w hr hgl hS => by
      obtain ⟨rfl, hr⟩ := hr
      have he : e = e' := hr
      subst he
      exact hleaf g a w hgl hS) fuel listed env H a w g h1 h2 h3 ⟨rfl, h4⟩ h5 h6
/-! ### With stores -/
def agreeT (τ : Touch) (H K : Heap) : Prop :=
  match τ with
  | .no => True
  | .ld i => K[i]? = H[i]?
  | .st i => K[i]? = H[i]?
  | .any => K = H
/-- What an operation does to memory, wherever it is carried out. -/
def EffW (τ : Touch) (f : Heap → Heap) : Prop := f = (fun K => K) ∨ ∃ i b, τ = .st i ∧ f = fun K => K.set i b
def StepW (c : Ctx) (ops : Array Oper) (H : Heap) (o : Oper) (e e' : Env) (H' : Heap) : Prop :=
  okDst c.rc.isSome c.prot e o.dst = true ∧ quietO o = true ∧ ∃ v, gval c.P c.C c.rc ops e o H = some (.ok v H') ∧ e' = put c.rc ops e o v ∧ (isStore o = false → H' = H)
def hfree {α : Type} (m : M α) : Prop := ∀ (H H' : Heap) (v : α), m H = some (.ok v H') → H' = H ∧ ∀ K, m K = some (.ok v K)
theorem hfree_pure {α : Type} (v : α) : hfree (M.pure v) := by
  intro H H' u h
  simp only [M.pure, Option.some.injEq, Out.ok.injEq] at h
  obtain ⟨rfl, rfl⟩ := h
  exact ⟨rfl, fun K => rfl⟩
theorem hfree_fail {α : Type} : hfree (M.fail : M α) := fun H H' u h => (fail_ne (H := H) h).elim
theorem hfree_pan {α : Type} (v : PV) : hfree (M.pan v : M α) := fun H H' u h => by
  simp only [M.pan, Option.some.injEq] at h
  cases h
theorem hfree_guard {α : Type} {b : Bool} {m : M α} (h : hfree m) : hfree (guardM b m) := by
  cases b
  · exact hfree_fail
  · exact h
theorem eff_free {τ : Touch} {m : M PV} (hm : hfree m) {H H' : Heap} {v : PV} (h : m H = some (.ok v H')) : ∃ f, EffW τ f ∧ H' = f H ∧ ∀ K, agreeT τ H K → m K = some (.ok v (f K)) :=
  ⟨fun K => K, .inl rfl, (hm H H' v h).1, fun K _ => (hm H H' v h).2 K⟩
theorem hfree_fa (off : Nat) (x : PV) : hfree (fa off x) := by cases x <;> first | exact hfree_pure _ | exact hfree_fail
theorem hfree_ex (i : Nat) (x : PV) : hfree (ex i x) := by
  cases x <;> first | exact hfree_fail | skip
  rename_i vs
  show hfree (match vs[i]? with | some v => M.pure v | none => M.fail)
  cases vs[i]? <;> first | exact hfree_pure _ | exact hfree_fail
theorem hfree_nc (P : Program) (x : PV) : hfree (nc P x) := by cases x <;> first | exact hfree_pure _ | exact hfree_fail | exact hfree_pan _
theorem hfree_cond {α : Type} {b : Bool} {x y : M α} (hx : hfree x) (hy : hfree y) : hfree (bif b then x else y) := by cases b <;> assumption
theorem hfree_fd (off : Nat) (n : Option Nat) (x : PV) : hfree (fd off n x) := by
  unfold fd
  repeat' (first | exact hfree_pure _ | exact hfree_fail | refine hfree_cond ?_ ?_ | split)
theorem hfree_ta (t : TypeId) (z : PV) (b : Bool) (x : PV) : hfree (ta t z b x) := by
  cases x <;> first | exact hfree_fail | skip
  · rename_i s v
    show hfree (bif s == t then M.pure _ else bif b then M.pure _ else M.fail)
    cases s == t <;> cases b <;> first | exact hfree_pure _ | exact hfree_fail
  · show hfree (bif b then M.pure _ else M.fail)
    cases b <;> first | exact hfree_pure _ | exact hfree_fail
theorem hfree_intOp (op : BinOp) (k : IntKind) (a b : Int) : hfree (intOp op k a b) := by
  cases op <;> (unfold intOp; dsimp only) <;> repeat' (first | exact hfree_pure _ | exact hfree_fail | refine hfree_cond ?_ ?_)
theorem hfree_strOp (op : BinOp) (a b : ByteArray) : hfree (strOp op a b) := by
  cases op <;> (unfold strOp; dsimp only) <;> repeat' (first | exact hfree_pure _ | exact hfree_fail | refine hfree_cond ?_ ?_)
theorem hfree_bi (op : BinOp) (ek : EqK) (x y : PV) : hfree (bi op ek x y) := by
  unfold bi
  split <;> repeat' (first | exact hfree_pure _ | exact hfree_fail | exact hfree_intOp _ _ _ _ | exact hfree_strOp _ _ _ | refine hfree_cond ?_ ?_ | split)
theorem hfree_un (op : UnOp) (x : PV) : hfree (un op x) := by
  unfold un
  split <;> first | exact hfree_pure _ | exact hfree_fail | exact hfree_intOp _ _ _ _
theorem hfree_cv (k : Cv) (own : Bool) (x : PV) : hfree (cv k own x) := by
  unfold cv
  split <;> repeat' (first | exact hfree_pure _ | exact hfree_fail | split)
theorem hfree_pick (c a b : PV) : hfree (pick c a b) := by
  unfold pick
  split <;> first | exact hfree_pure _ | exact hfree_fail
theorem hfree_mi (t : TypeId) (v : PV) : hfree (mi t v) := by
  unfold mi
  exact hfree_cond (hfree_pure _) hfree_fail
theorem hfree_bd (z : List PV) (ps : List (Nat × Nat × PV)) : hfree (bd z ps) := by
  unfold bd
  split <;> first | exact hfree_pure _ | exact hfree_fail
theorem hfree_bs (own : Bool) (a : Option Nat) (vs : List PV) : hfree (bs own a vs) := by
  unfold bs
  exact hfree_cond (hfree_pure _) hfree_fail
theorem hfree_mk (own : Bool) (sz b : Nat) (l c : PV) : hfree (mk own sz b l c) := by
  unfold mk
  split <;> repeat' (first | exact hfree_pure _ | exact hfree_fail | refine hfree_cond ?_ ?_)
theorem hfree_iaA (len sz : Nat) (a i : PV) : hfree (iaA len sz a i) := by
  unfold iaA rtPanic
  split <;> repeat' (first | exact hfree_pure _ | exact hfree_fail | refine hfree_cond ?_ ?_)
theorem hfree_iaS (sz : Nat) (a i : PV) : hfree (iaS sz a i) := by
  unfold iaS rtPanic
  split <;> repeat' (first | exact hfree_pure _ | exact hfree_fail | refine hfree_cond ?_ ?_ | split)
theorem hfree_ixS (a i : PV) : hfree (ixS a i) := by
  unfold ixS rtPanic
  split <;> repeat' (first | exact hfree_pure _ | exact hfree_fail | refine hfree_cond ?_ ?_ | split)
theorem hfree_ixA (len sz : Nat) (n : Option Nat) (a i : PV) : hfree (ixA len sz n a i) := by
  unfold ixA rtPanic
  split <;> repeat' (first | exact hfree_pure _ | exact hfree_fail | exact hfree_fd _ _ _ | refine hfree_cond ?_ ?_)
theorem hfree_ap (own : Bool) (sz b : Nat) (x y : PV) : hfree (ap own sz b x y) := by
  unfold ap
  split <;> repeat' (first | exact hfree_pure _ | exact hfree_fail | refine hfree_cond ?_ ?_ | split)
theorem hfree_lnS (x : PV) : hfree (lnS x) := by unfold lnS; split <;> first | exact hfree_pure _ | exact hfree_fail
theorem hfree_lnL (x : PV) : hfree (lnL x) := by unfold lnL; split <;> first | exact hfree_pure _ | exact hfree_fail
theorem hfree_mn (x y : PV) : hfree (mn x y) := by unfold mn; split <;> repeat' (first | exact hfree_pure _ | exact hfree_fail | refine hfree_cond ?_ ?_)
theorem hfree_mx (x y : PV) : hfree (mx x y) := by unfold mx; split <;> repeat' (first | exact hfree_pure _ | exact hfree_fail | refine hfree_cond ?_ ?_)
theorem hfree_gd {x : PV} {b : Bool} {m : M PV} (h : hfree m) : hfree (gd x b m) := by
  unfold gd
  split
  · exact hfree_cond h (hfree_pure _)
  · exact hfree_pure _
  · exact hfree_fail
theorem hfree_opVal {P : Program} {C : CallT} {rc : Option (Option PV)} {ops : Array Oper} {e : Env} {o : Oper} (hp : pureO o = true) : hfree (opVal P C rc ops e o) := by
  obtain ⟨dst, op, ty, pos, after, guard⟩ := o
  cases op with
  | move _ => exact hfree_pure _
  | assign _ => exact hfree_pure _
  | pick _ _ _ => exact hfree_pick _ _ _
  | extract _ _ => exact hfree_ex _ _
  | nilCheck _ => exact hfree_nc _ _
  | unOp _ _ _ => exact hfree_un _ _
  | binOp _ _ _ _ _ => exact hfree_bi _ _ _ _
  | convert _ _ _ => unfold opVal; exact hfree_cv _ _ _
  | makeInterface _ _ => exact hfree_guard (hfree_mi _ _)
  | call cl =>
    obtain ⟨callee, args, tys⟩ := cl
    cases callee with
    | builtin b =>
      cases b <;> first | (simp [pureO] at hp; done) | skip
      all_goals
        unfold opVal builtinV
        dsimp only
        repeat' (first | exact hfree_pure _ | exact hfree_fail | exact hfree_lnS _ | exact hfree_lnL _ | exact hfree_mn _ _ | exact hfree_mx _ _ | exact hfree_guard (hfree_ap _ _ _ _ _) | (rename_i h _; cases h; done) | split)
    | _ => simp [pureO] at hp
  | fieldAddr _ _ _ | field _ _ _ | typeAssert _ _ _ _ | build _ _ | buildSlice _ _ _ | makeSlice _ _ _ | indexAddr _ _ _ | index _ _ _ =>
    unfold opVal
    dsimp only
    repeat' (first | exact hfree_pure _ | exact hfree_fail | exact hfree_guard (hfree_fa _ _) | exact hfree_guard (hfree_fd _ _ _) | exact hfree_guard (hfree_ta _ _ _ _) | exact hfree_guard (hfree_bd _ _) | exact hfree_guard (hfree_bs _ _ _) | exact hfree_guard (hfree_mk _ _ _ _ _) | exact hfree_guard (hfree_iaA _ _ _ _) | exact hfree_guard (hfree_iaS _ _ _) | exact hfree_ixS _ _ | exact hfree_guard (hfree_ixA _ _ _ _ _) | split)
  | _ => simp [pureO] at hp
theorem hfree_gval {P : Program} {C : CallT} {rc : Option (Option PV)} {ops : Array Oper} {e : Env} {o : Oper} (hp : pureO o = true) : hfree (gval P C rc ops e o) := by
  unfold gval
  split
  · exact hfree_opVal hp
  · split
    · exact hfree_gd (hfree_opVal hp)
    · exact hfree_fail
def tmpO : Operand → Bool
  | .tmp _ => true
  | _ => false
theorem eff_of {o : Oper} {e : Env} {H H' : Heap} {v : PV} (hq : quietO o = true) (hg : gval c.P c.C c.rc ops e o H = some (.ok v H')) (hs : isStore o = false → H' = H) :
    ∃ f, EffW (touch e o) f ∧ H' = f H ∧ ∀ K, agreeT (touch e o) H K → gval c.P c.C c.rc ops e o K = some (.ok v (f K)) := by
  obtain ⟨dst, op, ty, pos, after, guard⟩ := o
  have other : touch e ⟨dst, op, ty, pos, after, guard⟩ = (bif pureO ⟨dst, op, ty, pos, after, guard⟩ then .no else .any) → isStore ⟨dst, op, ty, pos, after, guard⟩ = false →
      ∃ f, EffW (touch e ⟨dst, op, ty, pos, after, guard⟩) f ∧ H' = f H ∧ ∀ K, agreeT (touch e ⟨dst, op, ty, pos, after, guard⟩) H K → gval c.P c.C c.rc ops e ⟨dst, op, ty, pos, after, guard⟩ K = some (.ok v (f K)) := by
    intro ht hst
    cases hp : pureO ⟨dst, op, ty, pos, after, guard⟩ with
    | true => exact eff_free (hfree_gval hp) hg
    | false =>
      rw [hp] at ht
      have hH := hs hst
      subst hH
      refine ⟨fun K => K, .inl rfl, rfl, fun K hK => ?_⟩
      rw [ht] at hK
      have hK : K = H' := hK
      rw [hK]
      exact hg
  unfold quietO at hq
  cases op with
  | load t a =>
    cases guard with
    | some q => simp at hq
    | none =>
      clear other
      have e0 : gval c.P c.C c.rc ops e ⟨dst, .load t a, ty, pos, after, none⟩ = opVal c.P c.C c.rc ops e ⟨dst, .load t a, ty, pos, after, none⟩ := rfl
      rw [e0] at hg ⊢
      clear e0
      have hg : guardM (known c.P t) (ld (tagg c.P t) (moves ops ⟨dst, .load t a, ty, pos, after, none⟩) (ev e a)) H = some (.ok v H') := hg
      show ∃ f, EffW (tld (ev e a)) f ∧ H' = f H ∧ ∀ K, agreeT (tld (ev e a)) H K → guardM (known c.P t) (ld (tagg c.P t) (moves ops ⟨dst, .load t a, ty, pos, after, none⟩) (ev e a)) K = some (.ok v (f K))
      have hH := hs rfl
      generalize moves ops ⟨dst, .load t a, ty, pos, after, none⟩ = mv at hg ⊢
      generalize tagg c.P t = n at hg ⊢
      subst hH
      obtain ⟨hk, hg⟩ := guardM_some hg
      rw [hk]
      refine ⟨fun K => K, .inl rfl, rfl, fun K hK => ?_⟩
      show ld n mv (ev e a) K = _
      cases hv : ev e a with
      | ptr id off =>
        rw [hv] at hg hK
        have hK : K[id]? = H'[id]? := hK
        have hg : (match H'[id]? with
          | some (.cells cs) => match n with
            | none => match cs[off]? with
              | some v => bif mv then some (Out.ok v (H'.set id (.cells (cs.set off (stripC v))))) else some (.ok (stripC v) H')
              | none => none
            | some n => bif decide (off + n ≤ cs.length) then some (.ok (.agg (((cs.drop off).take n).map stripC)) H') else none
          | _ => none) = some (.ok v H') := hg
        show (match K[id]? with
          | some (.cells cs) => match n with
            | none => match cs[off]? with
              | some v => bif mv then some (Out.ok v (K.set id (.cells (cs.set off (stripC v))))) else some (.ok (stripC v) K)
              | none => none
            | some n => bif decide (off + n ≤ cs.length) then some (.ok (.agg (((cs.drop off).take n).map stripC)) K) else none
          | _ => none) = some (.ok v K)
        rw [hK]
        cases hb : H'[id]? with
        | none => rw [hb] at hg; cases hg
        | some bx =>
          rw [hb] at hg
          cases bx with
          | cells cs =>
            dsimp only at hg ⊢
            cases n with
            | none =>
              dsimp only at hg ⊢
              cases hc : cs[off]? with
              | none => rw [hc] at hg; cases hg
              | some u =>
                rw [hc] at hg
                dsimp only at hg ⊢
                cases mv with
                | false =>
                  simp only [cond_false, Option.some.injEq, Out.ok.injEq, and_true] at hg ⊢
                  exact hg
                | true =>
                  simp only [cond_true, Option.some.injEq, Out.ok.injEq] at hg ⊢
                  refine ⟨hg.1, ?_⟩
                  have h2 : (H'.set id (.cells (cs.set off (stripC u))))[id]? = H'[id]? := congrArg (fun l => l[id]?) hg.2
                  have hlt := (List.getElem?_eq_some_iff.mp hb).1
                  rw [List.getElem?_set_self hlt, hb] at h2
                  simp only [Option.some.injEq, Box.cells.injEq] at h2
                  rw [h2]
                  have hkb : K[id]? = some (.cells cs) := by rw [hK, hb]
                  obtain ⟨hl, hv⟩ := List.getElem?_eq_some_iff.mp hkb
                  rw [← hv]
                  exact List.set_getElem_self hl
            | some n =>
              dsimp only at hg ⊢
              cases hd : decide (off + n ≤ cs.length) with
              | false => rw [hd] at hg; cases hg
              | true =>
                rw [hd] at hg
                simp only [cond_true, Option.some.injEq, Out.ok.injEq, and_true] at hg ⊢
                exact hg
          | _ => cases hg
      | elem cs =>
        rw [hv] at hg
        have : hfree (ld n mv (.elem cs)) := by
          cases n with
          | none =>
            show hfree (match cs[0]? with | some v => M.pure v | none => M.fail)
            cases cs[0]? <;> first | exact hfree_pure _ | exact hfree_fail
          | some n =>
            show hfree (bif decide (n ≤ cs.length) then M.pure _ else M.fail)
            cases decide (n ≤ cs.length) <;> first | exact hfree_pure _ | exact hfree_fail
        exact (this _ _ _ hg).2 K
      | _ => rw [hv] at hg; exact (fail_ne (H := H') hg).elim
  | store t a x =>
    cases guard with
    | some q => simp at hq
    | none =>
      clear other
      have e0 : gval c.P c.C c.rc ops e ⟨dst, .store t a x, ty, pos, after, none⟩ = opVal c.P c.C c.rc ops e ⟨dst, .store t a x, ty, pos, after, none⟩ := rfl
      rw [e0] at hg ⊢
      clear e0
      have hg : guardM (known c.P t) (st (tsize c.P t) (tmpO x) (ev e a) (ev e x)) H = some (.ok v H') := hg
      show ∃ f, EffW (tst (ev e a)) f ∧ H' = f H ∧ ∀ K, agreeT (tst (ev e a)) H K → guardM (known c.P t) (st (tsize c.P t) (tmpO x) (ev e a) (ev e x)) K = some (.ok v (f K))
      generalize tmpO x = mv at hg ⊢
      generalize tsize c.P t = n at hg ⊢
      obtain ⟨hk, hg⟩ := guardM_some hg
      rw [hk]
      cases hv : ev e a with
      | ptr id off =>
        rw [hv] at hg
        generalize ev e x = u at hg ⊢
        have hg : (match H[id]? with
          | some (.cells cs) =>
            bif u.cells.length == n && (decide (off + n ≤ cs.length) && (lowL (id + 1) u.cells && u.cells.all isCell)) then
              some (Out.ok PV.undef (H.set id (.cells (fillAt off (bif mv then u.cells else u.cells.map stripC) cs))))
            else none
          | _ => none) = some (.ok v H') := hg
        cases hb : H[id]? with
        | none => rw [hb] at hg; cases hg
        | some bx =>
          rw [hb] at hg
          cases bx with
          | cells cs =>
            dsimp only at hg
            cases hd : (u.cells.length == n && (decide (off + n ≤ cs.length) && (lowL (id + 1) u.cells && u.cells.all isCell))) with
            | false => rw [hd] at hg; cases hg
            | true =>
              rw [hd] at hg
              simp only [cond_true, Option.some.injEq, Out.ok.injEq] at hg
              obtain ⟨rfl, rfl⟩ := hg
              refine ⟨fun K => K.set id (.cells (fillAt off (bif mv then u.cells else u.cells.map stripC) cs)), .inr ⟨id, _, rfl, rfl⟩, rfl, fun K hK => ?_⟩
              have hK : K[id]? = H[id]? := hK
              show (match K[id]? with
                | some (.cells cs) =>
                  bif u.cells.length == n && (decide (off + n ≤ cs.length) && (lowL (id + 1) u.cells && u.cells.all isCell)) then
                    some (Out.ok PV.undef (K.set id (.cells (fillAt off (bif mv then u.cells else u.cells.map stripC) cs))))
                  else none
                | _ => none) = _
              rw [hK, hb]
              dsimp only
              rw [hd]
              rfl
          | _ => cases hg
      | _ => rw [hv] at hg; exact (fail_ne (H := H) hg).elim
  | _ => exact other rfl rfl
theorem touch_congr {o : Oper} {e e' : Env} (h : AgreeOn (o.looksAt ops) e e') : touch e o = touch e' o := by
  have hx := looks_ev h
  obtain ⟨dst, op, ty, pos, after, guard⟩ := o
  cases op <;> first | rfl | skip
  · rename_i t a
    show tld (ev e a) = tld (ev e' a)
    rw [hx a (by simp [Op.operands])]
  · rename_i t a x
    show tst (ev e a) = tst (ev e' a)
    rw [hx a (by simp [Op.operands])]
theorem swapW {x y : Oper} {e e1 e2 : Env} {H1 H2 : Heap} (hx : isRecover x = false) (hy : isRecover y = false) (ha : apartE ops x y = true) (hcl : clash (touch e1 y) (touch e x) = false)
    (h1 : StepW c ops H x e e1 H1) (h2 : StepW c ops H1 y e1 e2 H2) :
    ∃ e1' H1', StepW c ops H y e e1' H1' ∧ StepW c ops H1' x e1' e2 H2 ∧ touch e y = touch e1 y ∧ touch e1' x = touch e x := by
  obtain ⟨k1, q1, v, g1, rfl, s1⟩ := h1
  obtain ⟨k2, q2, u, g2, rfl, s2⟩ := h2
  unfold apartE at ha
  rw [Bool.or_eq_true] at ha
  rcases ha with ha | ha
  · obtain ⟨a1, a2, a3⟩ := apart_spec ha
    obtain ⟨fx, ex1, ex2, ex3⟩ := eff_of q1 g1 s1
    obtain ⟨fy, ey1, ey2, ey3⟩ := eff_of q2 g2 s2
    rw [put_writes hx] at k2 g2 hcl ey1 ey3 ⊢
    rw [put_writes hy]
    have agY : AgreeOn (y.looksAt ops) (setAll e (writesN ops x e v)) e := fun t ht => setAll_get e _ fun p hp he => a1 p.1 (writes_in p hp) (he ▸ ht)
    have agX : AgreeOn (x.looksAt ops) (setAll e (writesN ops y e u)) e := fun t ht => setAll_get e _ fun p hp he => a3 p.1 (writes_in p hp) (he ▸ ht)
    have tY : touch (setAll e (writesN ops x e v)) y = touch e y := touch_congr agY
    have tX : touch (setAll e (writesN ops y e u)) x = touch e x := touch_congr agX
    rw [tY] at hcl ey1 ey3
    have gY := gval_congr (P := c.P) (C := c.C) (rc := c.rc) hy agY
    have gX := gval_congr (P := c.P) (C := c.C) (rc := c.rc) hx agX
    have noc : ∀ {i b K}, touch e x = .st i → agreeT (touch e y) (K.set i b) K := by
      intro i b K h
      rw [h] at hcl
      cases hty : touch e y with
      | no => exact True.intro
      | ld j =>
        rw [hty] at hcl
        have hcl : (i == j) = false := hcl
        show K[j]? = (K.set i b)[j]?
        rw [List.getElem?_set_ne (by simpa using hcl)]
      | st j =>
        rw [hty] at hcl
        have hcl : (i == j) = false := hcl
        show K[j]? = (K.set i b)[j]?
        rw [List.getElem?_set_ne (by simpa using hcl)]
      | any => rw [hty] at hcl; cases hcl
    have noc2 : ∀ {j b K}, touch e y = .st j → agreeT (touch e x) K (K.set j b) := by
      intro j b K h
      rw [h] at hcl
      cases htx : touch e x with
      | no => exact True.intro
      | ld i =>
        rw [htx] at hcl
        have hcl : (i == j) = false := hcl
        have hne : i ≠ j := by simpa using hcl
        show (K.set j b)[i]? = K[i]?
        rw [List.getElem?_set_ne (fun h => hne h.symm)]
      | st i =>
        rw [htx] at hcl
        have hcl : (i == j) = false := hcl
        have hne : i ≠ j := by simpa using hcl
        show (K.set j b)[i]? = K[i]?
        rw [List.getElem?_set_ne (fun h => hne h.symm)]
      | any => rw [htx] at hcl; cases hcl
    have agr : ∀ {τ : Touch} {K : Heap}, agreeT τ K K := by
      intro τ K
      cases τ <;> first | exact True.intro | rfl
    have yH : gval c.P c.C c.rc ops e y H = some (.ok u (fy H)) := by
      rw [← gY]
      refine ey3 H ?_
      rw [ex2]
      rcases ex1 with rfl | ⟨i, b, h1, rfl⟩
      · exact agr
      · exact noc h1
    have xH : gval c.P c.C c.rc ops (setAll e (writesN ops y e u)) x (fy H) = some (.ok v (fx (fy H))) := by
      rw [gX]
      refine ex3 _ ?_
      rcases ey1 with rfl | ⟨j, b, h1, rfl⟩
      · exact agr
      · exact noc2 h1
    have hcomm : fx (fy H) = H2 := by
      rw [ey2, ex2]
      rcases ex1 with rfl | ⟨i, b, h1, rfl⟩
      · rfl
      · rcases ey1 with rfl | ⟨j, b', h2, rfl⟩
        · rfl
        · rw [h1, h2] at hcl
          have hcl : (i == j) = false := hcl
          have hne : i ≠ j := by simpa using hcl
          exact List.set_comm _ _ (fun h => hne h.symm)
    refine ⟨setAll e (writesN ops y e u), fy H, ⟨?_, q2, u, yH, (put_writes hy).symm, fun hs => ?_⟩, ⟨?_, q1, v, ?_, ?_, fun hs => ?_⟩, tY.symm, tX⟩
    · rw [← k2]
      refine okDst_congr (by rw [setAll_length]) fun t ht => (setAll_get e _ fun p hp he => ?_).symm
      refine a2 p.1 (writes_in p hp) ?_
      rw [he]
      exact List.mem_append_left _ (by rw [ht]; simp)
    · rcases ey1 with rfl | ⟨j, b, h1, rfl⟩
      · rfl
      · exfalso
        obtain ⟨dst, op, ty, pos, after, guard⟩ := y
        cases op with
        | store t a x => cases hs
        | load t a =>
          have h1 : tld (ev e a) = .st j := h1
          cases hv : ev e a <;> rw [hv] at h1 <;> cases h1
        | _ =>
          revert h1
          unfold touch
          dsimp only
          cases pureO _ <;> intro h1 <;> cases h1
    · rw [← k1]
      refine okDst_congr (by rw [setAll_length]) fun t ht => setAll_get e _ fun p hp he => ?_
      refine a2 t (List.mem_append_left _ (by rw [ht]; simp)) ?_
      rw [← he]
      exact writes_in p hp
    · rw [xH, hcomm]
    · rw [put_writes hx, writes_congr agX, writes_congr agY]
      exact setAll_comm e _ _ fun p hp q hq he => a2 p.1 (writes_in p hp) (he ▸ writes_in q hq)
    · rw [← hcomm]
      rcases ex1 with rfl | ⟨i, b, h1, rfl⟩
      · rfl
      · exfalso
        obtain ⟨dst, op, ty, pos, after, guard⟩ := x
        cases op with
        | store t a x => cases hs
        | load t a =>
          have h1 : tld (ev e a) = .st i := h1
          cases hv : ev e a <;> rw [hv] at h1 <;> cases h1
        | _ =>
          revert h1
          unfold touch
          dsimp only
          cases pureO _ <;> intro h1 <;> cases h1
  · obtain ⟨r1, r2, r3, r4, r5, r6, r7, r8, r9⟩ := exSwap ha g1 g2 k1 k2
    subst r1 r2
    exact ⟨_, _, ⟨r3, q2, u, r5 _, rfl, fun _ => rfl⟩, ⟨r4, q1, v, r6 _, r7.symm, fun _ => rfl⟩, by rw [r9, r9], by rw [r8, r8]⟩
def RunW (c : Ctx) (ops : Array Oper) : List (Nat × Touch) → Env → Heap → Env → Heap → Prop
  | [], e, H, e', H' => e = e' ∧ H = H'
  | (i, τ) :: r, e, H, e', H' => ∃ o e1 H1, ops[i]? = some o ∧ touch e o = τ ∧ StepW c ops H o e e1 H1 ∧ RunW c ops r e1 H1 e' H'
theorem frontW {i : Nat} {τ : Touch} {oi : Oper} (hi : ops[i]? = some oi) (hri : isRecover oi = false) (hr : ∀ (j : Nat) (o : Oper), ops[j]? = some o → isRecover o = false) : ∀ (A B : List (Nat × Touch)) (e e' : Env) (H H' : Heap),
    (∀ a ∈ A, (∀ oa, ops[a.1]? = some oa → apartE ops oa oi = true) ∧ clash τ a.2 = false) → RunW c ops (A ++ (i, τ) :: B) e H e' H' → RunW c ops ((i, τ) :: (A ++ B)) e H e' H'
  | [], B, e, e', H, H', ha, h => h
  | (a, σ) :: A, B, e, e', H, H', ha, h => by
    obtain ⟨oa, e1, H1, hoa, hta, hs, hrun⟩ := h
    obtain ⟨o, e2, H2, ho, hto, hs2, hrun2⟩ := frontW hi hri hr A B e1 e' H1 H' (fun b hb => ha b (List.mem_cons_of_mem _ hb)) hrun
    rw [hi] at ho
    cases ho
    obtain ⟨b1, b2⟩ := ha (a, σ) List.mem_cons_self
    obtain ⟨e1', H1', s1, s2, t1, t2⟩ := swapW (hr a oa hoa) hri (b1 oa hoa) (by rw [hto, hta]; exact b2) hs hs2
    exact ⟨oi, e1', H1', hi, t1.trans hto, s1, oa, e2, H2, hoa, t2.trans hta, s2, hrun2⟩
theorem noPan_ok {m : M PV} {f : PV → M PV} {H : Heap} {out : Out PV} (h : M.bind (noPan m) f H = some out) : ∃ v H', m H = some (.ok v H') ∧ f v H' = some out := by
  unfold M.bind noPan at h
  cases hm : m H with
  | none => rw [hm] at h; cases h
  | some q =>
    rw [hm] at h
    cases q with
    | ok v H' => exact ⟨v, H', rfl, h⟩
    | pan v H' => cases h
/-- A run with stores in the order of the text, read off. -/
theorem runW_of {k : Env → M PV} {out : Out PV} : ∀ (l : List Oper) (ts : List (Nat × Touch)) (i : Nat) (env : Env) (H : Heap), (∀ j, l[j]? = ops[i + j]?) → dOpsW c ops i ts l env k H = some out →
    ∃ e' H' L, L.map Prod.fst = List.range' i l.length ∧ (∀ q ∈ L, ∀ t ∈ ts, ((befs ops.toList []).getD q.1 0).testBit t.1 = true ∨ clash q.2 t.2 = false) ∧ L.Pairwise (fun x y => ((befs ops.toList []).getD y.1 0).testBit x.1 = true ∨ clash y.2 x.2 = false) ∧ RunW c ops L env H e' H' ∧ k e' H' = some out
  | [], ts, i, env, H, hl, h => ⟨env, H, [], rfl, (fun q hq => by cases hq), List.Pairwise.nil, ⟨rfl, rfl⟩, h⟩
  | o :: r, ts, i, env, H, hl, h => by
    unfold dOpsW at h
    obtain ⟨hok, h⟩ := guardM_some h
    unfold noClash at hok
    simp only [Bool.and_eq_true, List.all_eq_true, Bool.or_eq_true, Bool.not_eq_true'] at hok
    obtain ⟨hok, hq, hcl⟩ := hok
    have ho : ops[i]? = some o := by
      have := hl 0
      simpa using this.symm
    have hr : ∀ j, r[j]? = ops[i + 1 + j]? := fun j => by
      have := hl (j + 1)
      rw [List.getElem?_cons_succ] at this
      rw [this]
      congr 1
      omega
    have key : ∃ v H1, gval c.P c.C c.rc ops env o H = some (.ok v H1) ∧ (isStore o = false → H1 = H) ∧ dOpsW c ops (i + 1) ((i, touch env o) :: ts) r (put c.rc ops env o v) k H1 = some out := by
      cases hst : isStore o with
      | true =>
        rw [hst] at h
        obtain ⟨v, H1, h1, h2⟩ := noPan_ok h
        exact ⟨v, H1, h1, (fun h => nomatch h), h2⟩
      | false =>
        rw [hst] at h
        obtain ⟨v, h1, h2⟩ := nb_some.mp h
        exact ⟨v, H, h1, fun _ => rfl, h2⟩
    obtain ⟨v, H1, hg, hs, h2⟩ := key
    obtain ⟨e', H', L, l1, l2, l3, l4, l5⟩ := runW_of r ((i, touch env o) :: ts) (i + 1) _ H1 hr h2
    refine ⟨e', H', (i, touch env o) :: L, ?_, fun q hq t ht => ?_, List.pairwise_cons.mpr ⟨fun q hq => l2 q hq _ List.mem_cons_self, l3⟩, ⟨o, _, H1, ho, rfl, ⟨hok, hq, v, hg, rfl, hs⟩, l4⟩, l5⟩
    · rw [List.map_cons, l1]; rfl
    · rcases List.mem_cons.mp hq with rfl | hq
      · exact hcl t ht
      · exact l2 q hq t (List.mem_cons_of_mem _ ht)
/-- What is asked of a run that has still to come. -/
def RW (c : Ctx) (ops : Array Oper) (e' : Env) (H' : Heap) (l : List Nat) (e : Env) (H : Heap) : Prop :=
  ∃ L : List (Nat × Touch), L.map Prod.fst = l ∧ L.Pairwise (fun x y => ((befs ops.toList []).getD y.1 0).testBit x.1 = true ∨ clash y.2 x.2 = false) ∧ RunW c ops L e H e' H'
theorem RW.front (hcm : commB ops = true) {e' : Env} {H' : Heap} (A : List Nat) (i : Nat) (B : List Nat) (oi : Oper) (e : Env) (H : Heap) (hi : ops[i]? = some oi) (ha : ∀ a ∈ A, ∀ oa, ops[a]? = some oa → apartE ops oa oi = true)
    (hnb : ∀ k ∈ A ++ B, ((befs ops.toList []).getD i 0).testBit k = false) (hR : RW c ops e' H' (A ++ i :: B) e H) : okDst c.rc.isSome c.prot e oi.dst = true ∧ ∃ v H1, gval c.P c.C c.rc ops e oi H = some (.ok v H1) ∧ RW c ops e' H' (A ++ B) (put c.rc ops e oi v) H1 := by
  obtain ⟨L, h1, h2, h3⟩ := hR
  obtain ⟨LA, LB, rfl, hA, hB⟩ := List.map_eq_append_iff.mp h1
  cases LB with
  | nil => cases hB
  | cons q LB =>
    obtain ⟨j, τ⟩ := q
    simp only [List.map_cons, List.cons.injEq] at hB
    obtain ⟨rfl, hB⟩ := hB
    have hp := List.pairwise_append.mp h2
    obtain ⟨o, e1, H1, ho, hto, ⟨hok, hq, v, hg, rfl, hs⟩, hrun⟩ := frontW hi (commB_spec hcm hi).1 (fun j o hj => (commB_spec hcm hj).1) LA LB e e' H H' (fun a ham => ⟨fun oa hoa => ha a.1 (by rw [← hA]; exact List.mem_map_of_mem ham) oa hoa, (hp.2.2 a ham _ List.mem_cons_self).resolve_left (by rw [hnb a.1 (List.mem_append_left _ (by rw [← hA]; exact List.mem_map_of_mem ham))]; simp)⟩) h3
    rw [hi] at ho
    cases ho
    refine ⟨hok, v, H1, hg, LA ++ LB, by rw [List.map_append, hA, hB], ?_, hrun⟩
    refine List.pairwise_append.mpr ⟨hp.1, (List.pairwise_cons.mp hp.2.1).2, fun a ha b hb => hp.2.2 a ha b (List.mem_cons_of_mem _ hb)⟩
theorem RW.nil {e' e : Env} {H' H : Heap} (h : RW c ops e' H' [] e H) : e = e' ∧ H = H' := by
  obtain ⟨L, h1, h2, h3⟩ := h
  cases L with
  | nil => exact h3
  | cons q r => cases h1
/-! ### With calls and stores: all orders of what touches memory -/
/-- One step, whatever it does to memory. -/
def StepL (c : Ctx) (ops : Array Oper) (H : Heap) (o : Oper) (e e' : Env) (H' : Heap) : Prop :=
  okDst c.rc.isSome c.prot e o.dst = true ∧ ∃ v, gval c.P c.C c.rc ops e o H = some (.ok v H') ∧ e' = put c.rc ops e o v
def RunL (c : Ctx) (ops : Array Oper) : List Nat → Env → Heap → Env → Heap → Prop
  | [], e, H, e', H' => e = e' ∧ H = H'
  | i :: r, e, H, e', H' => ∃ o e1 H1, ops[i]? = some o ∧ StepL c ops H o e e1 H1 ∧ RunL c ops r e1 H1 e' H'
theorem keep_gval {o : Oper} {e : Env} {H H' : Heap} {v : PV} (hp : keepO ops o = true) (h : gval c.P c.C c.rc ops e o H = some (.ok v H')) : H' = H := by
  unfold keepO at hp
  rw [Bool.or_eq_true] at hp
  rcases hp with hp | hp
  · exact (hfree_gval hp _ _ _ h).1
  · obtain ⟨dst, op, ty, pos, after, guard⟩ := o
    cases op with
    | load t a =>
      have hm : moves ops ⟨dst, .load t a, ty, pos, after, guard⟩ = false := by simpa using hp
      have one : ∀ {u : PV} {K : Heap}, opVal c.P c.C c.rc ops e ⟨dst, .load t a, ty, pos, after, guard⟩ H = some (.ok u K) → K = H := by
        intro u K hg
        have hg : guardM (known c.P t) (ld (tagg c.P t) (moves ops ⟨dst, .load t a, ty, pos, after, guard⟩) (ev e a)) H = some (.ok u K) := hg
        obtain ⟨_, hg⟩ := guardM_some hg
        rw [hm] at hg
        generalize tagg c.P t = n at hg
        cases ha : ev e a with
        | ptr id off =>
          rw [ha] at hg
          have hg : (match H[id]? with
            | some (.cells cs) => match n with
              | none => match cs[off]? with
                | some v => bif false then some (Out.ok v (H.set id (.cells (cs.set off (stripC v))))) else some (.ok (stripC v) H)
                | none => none
              | some n => bif decide (off + n ≤ cs.length) then some (.ok (.agg (((cs.drop off).take n).map stripC)) H) else none
            | _ => none) = some (.ok u K) := hg
          cases hb : H[id]? with
          | none => rw [hb] at hg; cases hg
          | some bx =>
            rw [hb] at hg
            cases bx with
            | cells cs =>
              cases n with
              | none =>
                dsimp only at hg
                cases hc : cs[off]? with
                | none => rw [hc] at hg; cases hg
                | some w =>
                  rw [hc] at hg
                  simp only [cond_false, Option.some.injEq, Out.ok.injEq] at hg
                  exact hg.2.symm
              | some n =>
                dsimp only at hg
                cases hd : decide (off + n ≤ cs.length) with
                | false => rw [hd] at hg; cases hg
                | true =>
                  rw [hd] at hg
                  simp only [cond_true, Option.some.injEq, Out.ok.injEq] at hg
                  exact hg.2.symm
            | _ => cases hg
        | elem cs =>
          rw [ha] at hg
          cases n with
          | none =>
            have hg : (match cs[0]? with | some v => M.pure v | none => M.fail) H = some (.ok u K) := hg
            cases hc : cs[0]? with
            | none => rw [hc] at hg; exact (fail_ne (H := H) hg).elim
            | some w => rw [hc] at hg; exact (hfree_pure w _ _ _ hg).1
          | some n => exact (hfree_cond (hfree_pure _) hfree_fail _ _ _ hg).1
        | _ => rw [ha] at hg; exact (fail_ne (H := H) hg).elim
      unfold gval at h
      cases guard with
      | none => exact one h
      | some jw =>
        obtain ⟨j, want⟩ := jw
        dsimp only at h
        cases hd : (ops[j]?).bind (·.dst) with
        | none => rw [hd] at h; exact (fail_ne (H := H) h).elim
        | some d =>
          rw [hd] at h
          dsimp only at h
          generalize e.getD d .undef = u at h
          cases u with
          | bool b =>
            have h : (bif b == want then opVal c.P c.C c.rc ops e ⟨dst, .load t a, ty, pos, after, some (j, want)⟩ else M.pure (.tup [])) H = some (.ok v H') := h
            cases hb : (b == want) with
            | true => rw [hb] at h; exact one h
            | false => rw [hb] at h; exact (hfree_pure _ _ _ _ h).1
          | tup vs =>
            cases vs with
            | nil => exact (hfree_pure _ _ _ _ h).1
            | cons x y => exact (fail_ne (H := H) h).elim
          | _ => exact (fail_ne (H := H) h).elim
    | _ => simp at hp
theorem swapL {x y : Oper} {e e1 e2 : Env} {H1 H2 : Heap} (hx : isRecover x = false) (hy : isRecover y = false) (ha : apartE ops x y = true) (hp : (pureO x = true ∨ pureO y = true) ∨ (keepO ops x = true ∧ keepO ops y = true))
    (h1 : StepL c ops H x e e1 H1) (h2 : StepL c ops H1 y e1 e2 H2) : ∃ e1' H1', StepL c ops H y e e1' H1' ∧ StepL c ops H1' x e1' e2 H2 := by
  obtain ⟨k1, v, g1, rfl⟩ := h1
  obtain ⟨k2, u, g2, rfl⟩ := h2
  unfold apartE at ha
  rw [Bool.or_eq_true] at ha
  rcases ha with ha | ha
  · obtain ⟨a1, a2, a3⟩ := apart_spec ha
    rw [put_writes hx] at k2 g2 ⊢
    rw [put_writes hy]
    have agY : AgreeOn (y.looksAt ops) (setAll e (writesN ops x e v)) e := fun t ht => setAll_get e _ fun p hp he => a1 p.1 (writes_in p hp) (he ▸ ht)
    have agX : AgreeOn (x.looksAt ops) (setAll e (writesN ops y e u)) e := fun t ht => setAll_get e _ fun p hp he => a3 p.1 (writes_in p hp) (he ▸ ht)
    have gY := gval_congr (P := c.P) (C := c.C) (rc := c.rc) hy agY
    have gX := gval_congr (P := c.P) (C := c.C) (rc := c.rc) hx agX
    rw [gY] at g2
    have key : ∃ H1', gval c.P c.C c.rc ops e y H = some (.ok u H1') ∧ gval c.P c.C c.rc ops e x H1' = some (.ok v H2) := by
      rcases hp with (hp | hp) | ⟨p1, p2⟩
      · obtain ⟨rfl, h3⟩ := hfree_gval hp _ _ _ g1
        exact ⟨H2, g2, h3 H2⟩
      · obtain ⟨rfl, h3⟩ := hfree_gval hp _ _ _ g2
        exact ⟨H, h3 H, g1⟩
      · have e1 := keep_gval p1 g1
        subst e1
        have e2 := keep_gval p2 g2
        subst e2
        exact ⟨_, g2, g1⟩
    obtain ⟨H1', y1, x1⟩ := key
    refine ⟨setAll e (writesN ops y e u), H1', ⟨?_, u, y1, (put_writes hy).symm⟩, ⟨?_, v, by rw [gX]; exact x1, ?_⟩⟩
    · rw [← k2]
      refine okDst_congr (by rw [setAll_length]) fun t ht => (setAll_get e _ fun p hp he => ?_).symm
      refine a2 p.1 (writes_in p hp) ?_
      rw [he]
      exact List.mem_append_left _ (by rw [ht]; simp)
    · rw [← k1]
      refine okDst_congr (by rw [setAll_length]) fun t ht => setAll_get e _ fun p hp he => ?_
      refine a2 t (List.mem_append_left _ (by rw [ht]; simp)) ?_
      rw [← he]
      exact writes_in p hp
    · rw [put_writes hx, writes_congr agX, writes_congr agY]
      exact setAll_comm e _ _ fun p hp q hq he => a2 p.1 (writes_in p hp) (he ▸ writes_in q hq)
  · obtain ⟨r1, r2, r3, r4, r5, r6, r7, r8, r9⟩ := exSwap ha g1 g2 k1 k2
    subst r1 r2
    exact ⟨_, _, ⟨r3, u, r5 _, rfl⟩, ⟨r4, v, r6 _, r7.symm⟩⟩
/-- Two steps may change places. -/
def Swap (ops : Array Oper) (i j : Nat) : Prop := ∀ x y, ops[i]? = some x → ops[j]? = some y → isRecover x = false ∧ isRecover y = false ∧ apartE ops x y = true ∧ ((pureO x = true ∨ pureO y = true) ∨ (keepO ops x = true ∧ keepO ops y = true))
theorem frontL {i : Nat} : ∀ (A B : List Nat) (e e' : Env) (H H' : Heap), (∀ a ∈ A, Swap ops a i) → RunL c ops (A ++ i :: B) e H e' H' → RunL c ops (i :: (A ++ B)) e H e' H'
  | [], B, e, e', H, H', ha, h => h
  | a :: A, B, e, e', H, H', ha, h => by
    obtain ⟨oa, e1, H1, hoa, hs, hrun⟩ := h
    obtain ⟨oi, e2, H2, hi, hs2, hrun2⟩ := frontL A B e1 e' H1 H' (fun b hb => ha b (List.mem_cons_of_mem _ hb)) hrun
    obtain ⟨b1, b2, b3, b4⟩ := ha a List.mem_cons_self oa oi hoa hi
    obtain ⟨e1', H1', s1, s2⟩ := swapL b1 b2 b3 b4 hs hs2
    exact ⟨oi, e1', H1', hi, s1, oa, e2, H2, hoa, s2, hrun2⟩
theorem sortL : ∀ (τ σ : List Nat) (e e' : Env) (H H' : Heap), τ.Nodup → σ.Perm τ → (∀ x y, [x, y].Sublist σ → [y, x].Sublist τ → Swap ops x y) → RunL c ops σ e H e' H' → RunL c ops τ e H e' H'
  | [], σ, e, e', H, H', hn, hp, hs, h => by
    have := hp.eq_nil
    subst this
    exact h
  | i :: τ, σ, e, e', H, H', hn, hp, hs, h => by
    have hi : i ∈ σ := hp.mem_iff.mpr List.mem_cons_self
    obtain ⟨A, B, rfl⟩ := List.append_of_mem hi
    have hp2 : (A ++ B).Perm τ := by
      have h1 : (i :: (A ++ B)).Perm (i :: τ) := List.perm_middle.symm.trans hp
      exact h1.cons_inv
    have hn2 := List.nodup_cons.mp hn
    obtain ⟨o, e1, H1, ho, hst, hrun⟩ := frontL A B e e' H H' (fun a ha => by
      refine hs a i ?_ ?_
      · obtain ⟨A1, A2, rfl⟩ := List.append_of_mem ha
        have : [a, i] = [a] ++ [i] := rfl
        rw [this]
        refine List.Sublist.append ?_ ?_
        · exact List.singleton_sublist.mpr ha
        · exact List.singleton_sublist.mpr List.mem_cons_self
      · refine List.Sublist.cons_cons _ (List.singleton_sublist.mpr ?_)
        exact hp2.mem_iff.mp (List.mem_append_left _ ha)) h
    refine ⟨o, e1, H1, ho, hst, sortL τ (A ++ B) e1 e' H1 H' hn2.2 hp2 (fun x y h1 h2 => hs x y ?_ (h2.trans (List.sublist_cons_self _ _))) hrun⟩
    exact h1.trans (List.Sublist.append (List.Sublist.refl _) (List.sublist_cons_self _ _))
theorem consB_pair {b : List Nat} : ∀ {l : List Nat} {x y : Nat}, consB b l = true → [x, y].Sublist l → (b.getD x 0).testBit y = false
  | i :: r, x, y, h, hs => by
    unfold consB at h
    simp only [Bool.and_eq_true, List.all_eq_true, Bool.not_eq_true'] at h
    cases hs with
    | cons _ hs => exact consB_pair h.2 hs
    | cons_cons _ hs => exact h.1 y (List.singleton_sublist.mp hs)
theorem consB_of {b : List Nat} : ∀ {l : List Nat}, (∀ x y, [x, y].Sublist l → (b.getD x 0).testBit y = false) → consB b l = true
  | [], h => rfl
  | i :: r, h => by
    unfold consB
    simp only [Bool.and_eq_true, List.all_eq_true, Bool.not_eq_true']
    exact ⟨fun y hy => h i y (List.Sublist.cons_cons _ (List.singleton_sublist.mpr hy)), consB_of fun x y hs => h x y (hs.trans (List.sublist_cons_self _ _))⟩
theorem consB_sub {b l l' : List Nat} (h : consB b l = true) (hs : l'.Sublist l) : consB b l' = true := consB_of fun x y h2 => consB_pair h (h2.trans hs)
theorem beforeB_false : ∀ {l : List Nat} {x y : Nat}, l.Nodup → [y, x].Sublist l → beforeB l x y = false
  | z :: r, x, y, hn, hs => by
    have hn2 := List.nodup_cons.mp hn
    unfold beforeB
    cases hs with
    | cons _ hs =>
      have hx : x ∈ r := hs.subset (by simp)
      have hy : y ∈ r := hs.subset (by simp)
      have h1 : (z == x) = false := by
        simp only [beq_eq_false_iff_ne, ne_eq]
        intro h; subst h; exact hn2.1 hx
      have h2 : (z == y) = false := by
        simp only [beq_eq_false_iff_ne, ne_eq]
        intro h; subst h; exact hn2.1 hy
      rw [h1, h2]
      exact beforeB_false hn2.2 hs
    | cons_cons _ hs =>
      have hx : x ∈ r := hs.subset (by simp)
      have h1 : (z == x) = false := by
        simp only [beq_eq_false_iff_ne, ne_eq]
        intro h; subst h; exact hn2.1 hx
      rw [h1]
      simp
theorem closeB_pair {π : List Nat} : ∀ {l : List Nat} {x y : Nat}, closeB ops l π = true → [x, y].Sublist l → beforeB π x y = true ∨ (keepI ops x = true ∧ keepI ops y = true)
  | i :: r, x, y, h, hs => by
    unfold closeB at h
    simp only [Bool.and_eq_true, List.all_eq_true, Bool.or_eq_true] at h
    cases hs with
    | cons _ hs => exact closeB_pair h.2 hs
    | cons_cons _ hs => exact h.1 y (List.singleton_sublist.mp hs)
theorem mem_arr : ∀ (τ l : List Nat), τ.Perm l → τ ∈ arr l.length l
  | [], l, h => by
    have := h.symm.eq_nil
    subst this
    exact List.mem_singleton.mpr rfl
  | i :: τ, l, h => by
    have hi : i ∈ l := h.mem_iff.mp List.mem_cons_self
    have h2 : τ.Perm (l.erase i) := (List.cons_perm_iff_perm_erase.mp h).2
    have hl : l.length = (l.erase i).length + 1 := by rw [List.length_erase_of_mem hi]; have := List.length_pos_of_mem hi; omega
    rw [hl]
    unfold arr
    exact List.mem_flatMap.mpr ⟨i, hi, List.mem_map.mpr ⟨τ, mem_arr τ _ h2, rfl⟩⟩
theorem guardM_someA {α : Type} {b : Bool} {m : M α} {H : Heap} {out : Out α} (h : guardM b m H = some out) : b = true ∧ m H = some out := by
  cases b
  · exact (by cases h)
  · exact ⟨rfl, h⟩
theorem perm_of_sub : ∀ (l s : List Nat), l.Nodup → (∀ i ∈ l, i ∈ s) → s.length ≤ l.length → s.Perm l
  | [], s, hn, hs, hl => by
    have : s = [] := List.eq_nil_of_length_eq_zero (by simpa using hl)
    subst this
    exact List.Perm.refl _
  | a :: r, s, hn, hs, hl => by
    have hn2 := List.nodup_cons.mp hn
    have ha : a ∈ s := hs a List.mem_cons_self
    have h1 : s.Perm (a :: s.erase a) := List.perm_cons_erase ha
    refine h1.trans (List.Perm.cons a (perm_of_sub r (s.erase a) hn2.2 (fun i hi => ?_) ?_))
    · refine (List.mem_erase_of_ne (fun h => ?_)).mpr (hs i (List.mem_cons_of_mem _ hi))
      subst h
      exact hn2.1 hi
    · rw [List.length_erase_of_mem ha]
      simp only [List.length_cons] at hl
      omega
theorem dOpsL_some {β : Type} {k : Env → M β} {out : Out β} : ∀ (l : List Nat) (e : Env) (H : Heap), dOpsL c ops l e k H = some out → ∃ e' H', RunL c ops l e H e' H' ∧ k e' H' = some out
  | [], e, H, h => ⟨e, H, ⟨rfl, rfl⟩, h⟩
  | i :: r, e, H, h => by
    unfold dOpsL at h
    cases ho : ops[i]? with
    | none => rw [ho] at h; exact (fail_ne (H := H) h).elim
    | some o =>
      rw [ho] at h
      dsimp only at h
      obtain ⟨hok, h⟩ := guardM_someA h
      have : ∃ v H1, gval c.P c.C c.rc ops e o H = some (.ok v H1) ∧ dOpsL c ops r (put c.rc ops e o v) k H1 = some out := by
        unfold M.bind noPan at h
        cases hm : gval c.P c.C c.rc ops e o H with
        | none => rw [hm] at h; cases h
        | some q =>
          rw [hm] at h
          cases q with
          | ok v H' => exact ⟨v, H', rfl, h⟩
          | pan v H' => cases h
      obtain ⟨v, H1, h1, h2⟩ := this
      obtain ⟨e', H', r1, r2⟩ := dOpsL_some r _ _ h2
      exact ⟨e', H', ⟨o, _, H1, ho, ⟨hok, v, h1, rfl⟩, r1⟩, r2⟩
theorem chkL_some {σ0 : List Nat} {e : Env} {out : Out PV} : ∀ (l : List (List Nat)) {x : M PV}, chkL c ops e σ0 l x H = some out → x H = some out ∧ ∀ σ ∈ l, ∃ e' H', RunL c ops σ e H e' H' ∧ RunL c ops σ0 e H e' H'
  | [], x, h => ⟨h, fun σ hs => by cases hs⟩
  | σ :: r, x, h => by
    obtain ⟨a, K, h1, h2, h3⟩ := chk_some.mp h
    obtain ⟨r1, r2⟩ := chkL_some r h3
    refine ⟨r1, fun σ' hs => ?_⟩
    rcases List.mem_cons.mp hs with rfl | hs
    · obtain ⟨e1, H1, q1, q2⟩ := dOpsL_some _ _ _ h1
      obtain ⟨e2, H2, q3, q4⟩ := dOpsL_some _ _ _ h2
      simp only [M.pure, Option.some.injEq, Out.ok.injEq] at q2 q4
      obtain ⟨rfl, rfl⟩ := q2
      obtain ⟨rfl, rfl⟩ := q4
      exact ⟨_, _, q1, q3⟩
    · exact r2 σ' hs
theorem RunL.det : ∀ {l : List Nat} {e e1 e2 : Env} {H H1 H2 : Heap}, RunL c ops l e H e1 H1 → RunL c ops l e H e2 H2 → e1 = e2 ∧ H1 = H2
  | [], e, e1, e2, H, H1, H2, h, k => ⟨h.1.symm.trans k.1, h.2.symm.trans k.2⟩
  | i :: r, e, e1, e2, H, H1, H2, h, k => by
    obtain ⟨o, x, K, ho, ⟨_, v, hg, rfl⟩, hr⟩ := h
    obtain ⟨o', x', K', ho', ⟨_, v', hg', rfl⟩, hr'⟩ := k
    rw [ho] at ho'
    cases ho'
    rw [hg] at hg'
    cases hg'
    exact RunL.det hr hr'
/-- What is asked of what has still to come: in all orders that may be. -/
def RL (c : Ctx) (ops : Array Oper) (e' : Env) (H' : Heap) (l : List Nat) (e : Env) (H : Heap) : Prop :=
  l.Nodup ∧ consB (befs ops.toList []) l = true ∧ ∀ τ : List Nat, τ.Perm l → consB (befs ops.toList []) τ = true → RunL c ops τ e H e' H'
theorem RL.front {e' : Env} {H' : Heap} (A : List Nat) (i : Nat) (B : List Nat) (oi : Oper) (e : Env) (H : Heap) (hi : ops[i]? = some oi) (hnb : ∀ k ∈ A ++ B, ((befs ops.toList []).getD i 0).testBit k = false)
    (hR : RL c ops e' H' (A ++ i :: B) e H) : okDst c.rc.isSome c.prot e oi.dst = true ∧ ∃ v H1, gval c.P c.C c.rc ops e oi H = some (.ok v H1) ∧ RL c ops e' H' (A ++ B) (put c.rc ops e oi v) H1 := by
  obtain ⟨h1, h2, h3⟩ := hR
  have hsub : (A ++ B).Sublist (A ++ i :: B) := List.Sublist.append (List.Sublist.refl _) (List.sublist_cons_self _ _)
  have hcB : consB (befs ops.toList []) (A ++ B) = true := consB_sub h2 hsub
  have key : ∀ τ : List Nat, τ.Perm (A ++ B) → consB (befs ops.toList []) τ = true → RunL c ops (i :: τ) e H e' H' := by
    intro τ hp hc
    refine h3 _ ((List.Perm.cons i hp).trans List.perm_middle.symm) ?_
    unfold consB
    simp only [Bool.and_eq_true, List.all_eq_true, Bool.not_eq_true']
    exact ⟨fun j hj => hnb j (hp.mem_iff.mp hj), hc⟩
  obtain ⟨o, e1, H1, ho, ⟨hok, v, hg, rfl⟩, hrun⟩ := key _ (List.Perm.refl _) hcB
  rw [hi] at ho
  cases ho
  refine ⟨hok, v, H1, hg, h1.sublist hsub, hcB, fun τ hp hc => ?_⟩
  obtain ⟨o', e2, H2, ho', ⟨_, v', hg', rfl⟩, hrun'⟩ := key τ hp hc
  rw [hi] at ho'
  cases ho'
  rw [hg] at hg'
  cases hg'
  exact hrun'
theorem RL.nil {e' e : Env} {H' H : Heap} (h : RL c ops e' H' [] e H) : e = e' ∧ H = H' := h.2.2 [] (List.Perm.refl _) rfl
theorem dOpsP_some (hcm : commB ops = true) {e : Env} {k : Env → M PV} {out : Out PV} (h : dOpsP c ops e k H = some out) : ∃ e' H', RL c ops e' H' (List.range ops.size) e H ∧ k e' H' = some out := by
  unfold dOpsP at h
  obtain ⟨hg, h⟩ := guardM_some h
  generalize hords : ordsOf ops = ords at hg h
  cases ords with
  | nil => exact (fail_ne (H := H) h).elim
  | cons σ0 r =>
    dsimp only at h
    obtain ⟨h1, h2⟩ := chkL_some r h
    obtain ⟨e', H', r0, hk⟩ := dOpsL_some _ _ _ h1
    refine ⟨e', H', ⟨List.nodup_range, ?_, fun τ hp hc => ?_⟩, hk⟩
    · unfold goodP at hg
      simp only [Bool.and_eq_true] at hg
      exact hg.1
    · unfold goodP at hg
      simp only [Bool.and_eq_true, List.all_eq_true, Bool.or_eq_true, beq_iff_eq, Bool.not_eq_true', List.any_eq_true] at hg
      obtain ⟨_, g2, g3, g4⟩ := hg
      have hperm : ∀ σ ∈ σ0 :: r, σ.Perm (List.range ops.size) := by
        intro σ hs
        obtain ⟨a1, a2, a3⟩ := g2 σ hs
        exact perm_of_sub _ _ List.nodup_range (fun i hi => by simpa using a2 i hi) (by simp [a1])
      have hn : τ.Nodup := hp.nodup_iff.mpr List.nodup_range
      have hpi : (τ.filter (isHeap ops)).Perm ((List.range ops.size).filter (isHeap ops)) := hp.filter _
      obtain ⟨σ, hσ, hσf⟩ : ∃ σ ∈ σ0 :: r, closeB ops (σ.filter (isHeap ops)) (τ.filter (isHeap ops)) = true := by
        rcases g3 _ (mem_arr _ _ hpi) with h | ⟨σ, hs, h⟩
        · have := consB_sub hc (List.filter_sublist (p := isHeap ops))
          rw [this] at h
          cases h
        · exact ⟨σ, hs, h⟩
      have hrun : RunL c ops σ e H e' H' := by
        rcases List.mem_cons.mp hσ with rfl | hs
        · exact r0
        · obtain ⟨e2, H2, q1, q2⟩ := h2 σ hs
          obtain ⟨rfl, rfl⟩ := q2.det r0
          exact q1
      refine sortL τ σ e e' H H' hn ((hperm σ hσ).trans hp.symm) (fun x y s1 s2 => ?_) hrun
      have hcσ := (g2 σ hσ).2.2
      have b1 := consB_pair hcσ s1
      have b2 := consB_pair hc s2
      have hxy : x ≠ y := by
        have hnσ : σ.Nodup := (hperm σ hσ).nodup_iff.mpr List.nodup_range
        have := (s1.nodup hnσ)
        intro h
        subst h
        simp at this
      have hx : x < ops.size := List.mem_range.mp ((hperm σ hσ).mem_iff.mp (s1.subset (by simp)))
      have hy : y < ops.size := List.mem_range.mp ((hperm σ hσ).mem_iff.mp (s1.subset (by simp)))
      have both : isHeap ops x = true ∧ isHeap ops y = true → keepI ops x = true ∧ keepI ops y = true := by
        rintro ⟨p, q⟩
        have f1 : ([x, y].filter (isHeap ops)).Sublist (σ.filter (isHeap ops)) := s1.filter _
        have f2 : ([y, x].filter (isHeap ops)).Sublist (τ.filter (isHeap ops)) := s2.filter _
        simp only [List.filter_cons, p, q, if_true, List.filter_nil] at f1 f2
        rcases closeB_pair hσf f1 with h | h
        · rw [beforeB_false (hn.filter _) f2] at h; cases h
        · exact h
      have pr : ∀ {z oz}, ops[z]? = some oz → isHeap ops z = false → pureO oz = true := by
        intro z oz hz hh
        unfold isHeap isPure at hh
        rw [hz] at hh
        simpa using hh
      have sym : ∀ {u v : Oper}, apartE ops u v = true → apartE ops v u = true := by
        intro u v h
        unfold apartE at h ⊢
        rw [Bool.or_eq_true] at h ⊢
        rcases h with h | h
        · left
          obtain ⟨q1, q2, q3⟩ := apart_spec h
          unfold apartN
          simp only [Bool.and_eq_true, List.all_eq_true, Bool.not_eq_true', List.contains_eq_mem, decide_eq_false_iff_not]
          exact ⟨fun t ht => ⟨q3 t ht, fun h => q2 t h ht⟩, fun t ht => q1 t ht⟩
        · right
          obtain ⟨du, ou, tu, su, au, gu⟩ := u
          obtain ⟨dv, ov, tv, sv, av, gv⟩ := v
          unfold exPair at h
          split at h
          · rename_i s i t j a b e1 e2 e3 e4
            dsimp only at e1 e2 e3 e4
            subst e1 e2 e3 e4
            simp only [Bool.and_eq_true, beq_iff_eq, bne_iff_ne, ne_eq, Option.isNone_iff_eq_none] at h
            obtain ⟨rfl, hij, hab, has, hbs, rfl, rfl⟩ := h
            unfold exPair
            simp only [Bool.and_eq_true, beq_iff_eq, bne_iff_ne, ne_eq, Option.isNone_iff_eq_none]
            simp only [Ne.symm hij, Ne.symm hab, hbs, has, not_false_eq_true, and_self, beq_self_eq_true, Option.isNone_none, Bool.and_self, Bool.true_and, decide_true, Bool.not_false, decide_false]
          · cases h
      intro ox oy hox hoy
      have c1 := (commB_spec hcm hox).1
      have c2 := (commB_spec hcm hoy).1
      have hpure : (pureO ox = true ∨ pureO oy = true) ∨ (keepO ops ox = true ∧ keepO ops oy = true) := by
        cases p : isHeap ops x with
        | false => exact .inl (.inl (pr hox p))
        | true =>
          cases q : isHeap ops y with
          | false => exact .inl (.inr (pr hoy q))
          | true =>
            obtain ⟨k1, k2⟩ := both ⟨p, q⟩
            unfold keepI at k1 k2
            rw [hox] at k1
            rw [hoy] at k2
            exact .inr ⟨k1, k2⟩
      refine ⟨c1, c2, ?_, hpure⟩
      rcases Nat.lt_or_gt_of_ne hxy with hlt | hlt
      · rcases g4 y (List.mem_range.mpr hy) x (List.mem_range.mpr hlt) with h | h
        · rw [b2] at h; cases h
        · rw [hox, hoy] at h; exact h
      · rcases g4 x (List.mem_range.mpr hx) y (List.mem_range.mpr hlt) with h | h
        · rw [b1] at h; cases h
        · rw [hox, hoy] at h; exact sym h
end Go.Proofs.Ytofbbijagbpicaa.Pi
/- Ways, loops, bodies, told. -/
namespace Go.Proofs.Ytofbbijagbpicaa.Pi
set_option linter.unusedVariables false
set_option linter.unusedSimpArgs false
variable {g : G} {L L' : Owner} {w w' : World} {H : Heap} {x : Nat} {env : Env}
def Ex.to : Ex → Exit
  | .normal => .normal
  | .exit id => .exit id
  | .ret => .ret
def KLeaf (CDN : Option PV → CallT) (c : Ctx) (g0 : G) (w0 : World) (out : Out PV) (k : K) (Q : Exit → Act → World → Prop) : Prop := ∀ e, Leaf CDN c g0 w0 out (k e) (Q e.to)
theorem keepFrom_get (l : List Tmp) : ∀ (i : Nat) (env : Env) (t : Nat), (keepFrom l i env)[t]? = (env[t]?).map fun v => bif l.contains (i + t) then v else .undef
  | i, [], t => by simp [keepFrom]
  | i, v :: r, t => by
    cases t with
    | zero => simp [keepFrom]
    | succ t =>
      simp only [keepFrom, List.getElem?_cons_succ]
      rw [keepFrom_get l (i + 1) r t]
      simp [Nat.add_assoc, Nat.add_comm 1 t]
theorem keep_get (l : List Tmp) (env : Env) (t : Nat) : (keep l env)[t]? = (env[t]?).map fun v => bif l.contains t then v else .undef := by
  unfold keep
  rw [keepFrom_get]
  simp
theorem keep_length (l : List Tmp) (env : Env) : (keep l env).length = env.length := by
  have h1 : ∀ (i : Nat) (env : Env), (keepFrom l i env).length = env.length := by
    intro i env
    induction env generalizing i with
    | nil => rfl
    | cons v r ih => simp [keepFrom, ih]
  exact h1 0 env
theorem Sta.keep {c : Ctx} {a : Act} {Δ : List Dfr} (h : Sta c g H env a w Δ) {l : List Tmp} (hp : ∀ t ∈ c.prot, t ∈ l) : Sta c g H (keep l env) a w Δ := by
  refine ⟨h.inv, ⟨h.tok.one, by rw [keep_length]; exact h.tok.len, fun t v p hv hp' => ?_, fun t p ht hp' => ?_⟩, h.defs.step (fun _ _ h => h) (fun _ _ _ h => h) (fun t ht id off he => ?_)⟩
  · rw [keep_get] at hp'
    obtain ⟨q, hq, rfl⟩ := Option.map_eq_some_iff.mp hp'
    cases l.contains t
    · exact .one (.undef _)
    · exact h.tok.val t v q hv hq
  · rw [keep_get] at hp'
    obtain ⟨q, hq, rfl⟩ := Option.map_eq_some_iff.mp hp'
    cases l.contains t
    · exact .inl rfl
    · exact h.tok.slot t q ht hq
  · have h1 : l.contains t = true := List.contains_iff_mem.mpr (hp t ht)
    rw [List.getD_eq_getElem?_getD] at he ⊢
    rw [keep_get]
    cases hv : env[t]? with
    | none => rw [hv] at he; simp at he
    | some v =>
      rw [hv] at he
      simp only [Option.map_some, h1, cond_true]
      exact he
def LSound (CDN : Option PV → CallT) (c : Ctx) (L : LoopT) : Prop :=
  ∀ (af : List Tmp) (b : Code) (k : K) (Q : Exit → Act → World → Prop) (g0 : G) (w0 : World) (out : Out PV), (∀ t ∈ c.prot, t ∈ af) → KLeaf CDN c g0 w0 out k Q → PanLeaf CDN c g0 w0 out (fun ch => Q (.panic ch)) →
    ∀ env a w g H Δ o, Glob g0 w0 g w → Sta c g H env a w Δ → L af b env k H = some o → unw CDN Δ o = some out → b.wp c.P Q a w
variable {c : Ctx} {CDN : Option PV → CallT}
theorem drew_glob (g : G) (w : World) : Glob g w g { w with drawn := w.drawn + 1 } := ⟨rfl, rfl, rfl, Nat.le_refl _, fun _ _ h k => ⟨h, k, rfl⟩, Grow.refl _ _⟩
theorem Sta.drew {a : Act} {Δ : List Dfr} (h : Sta c g H env a w Δ) : Sta c g H env a { w with drawn := w.drawn + 1 } Δ :=
  ⟨⟨h.inv.len, h.inv.nd, h.inv.im, h.inv.ow, fun id b x hb hx => by
    have := h.inv.box id b x hb hx
    cases x <;> exact this⟩, h.tok, h.defs⟩
theorem den_sound (hC : CSound c.P c.C) (hrc : c.rc = none) (hle : ∀ r f a, Le (c.CD r f a) (CDN r f a)) {L : LoopT} (hL : LSound CDN c L) :
    ∀ (co : Code) (af : List Tmp) (k : K) (Q : Exit → Act → World → Prop) (g0 : G) (w0 : World) (out : Out PV), (∀ t ∈ c.prot, t ∈ af) → KLeaf CDN c g0 w0 out k Q → PanLeaf CDN c g0 w0 out (fun ch => Q (.panic ch)) →
      ∀ env a w g H Δ o, Glob g0 w0 g w → Sta c g H env a w Δ → den c L af co env k H = some o → unw CDN Δ o = some out → co.wp c.P Q a w
  | .skip, af, k, Q, g0, w0, out, hp, hk, hpl, env, a, w, g, H, Δ, o, hgl, hS, h, hu => wp_skip (hk .normal Δ o g H env a w h hu hgl hS)
  | .label l, af, k, Q, g0, w0, out, hp, hk, hpl, env, a, w, g, H, Δ, o, hgl, hS, h, hu => wp_label (hk .normal Δ o g H env a w h hu hgl hS)
  | .ret, af, k, Q, g0, w0, out, hp, hk, hpl, env, a, w, g, H, Δ, o, hgl, hS, h, hu => wp_ret (hk .ret Δ o g H env a w h hu hgl hS)
  | .exit id, af, k, Q, g0, w0, out, hp, hk, hpl, env, a, w, g, H, Δ, o, hgl, hS, h, hu => wp_exit (hk (.exit id) Δ o g H env a w h hu hgl hS)
  | .region id ops true, af, k, Q, g0, w0, out, hp, hk, hpl, env, a, w, g, H, Δ, o, hgl, hS, h, hu => by
    have h : guardM (c.P.follows .mixedOrders && commB ops) (bif modeP ops && c.rc.isNone then dOpsP c ops env (k .normal) else bif ops.any isStore || c.rc.isSome then dOpsW c ops 0 [] ops.toList env (k .normal) else dOpsN c ops ops.toList env (k .normal)) H = some o := h
    obtain ⟨hg, h⟩ := guardM_some h
    simp only [Bool.and_eq_true] at hg
    have hall : restOf ops (Array.replicate ops.size false) = List.range' 0 ops.toList.length := by
      unfold restOf
      rw [List.filter_eq_self.mpr, List.range_eq_range', Array.length_toList]
      intro i hi
      simp [Array.getD_eq_getD_getElem?, List.mem_range.mp hi]
    cases hbp : (modeP ops && c.rc.isNone) with
    | true =>
      rw [hbp] at h
      obtain ⟨e', H', hRL, hk'⟩ := dOpsP_some hg.2 h
      refine wp_region_any hg.1 (any_soundR hC hg.2 (R := RL c ops e' H') (Δ := Δ) (g0 := g0) (w0 := w0) (fun A i B oi e K hi ha hnb hR => RL.front A i B oi e K hi hnb hR) (fun e K g a w hR hgl hS => ?_) ops.size _ env H a _ g (by simp) ?_ ?_ ?_ (hgl.trans (drew_glob g w)) hS.drew)
      · obtain ⟨rfl, rfl⟩ := hR.nil
        exact hk .normal Δ o g K e a w hk' hu hgl hS
      · exact Nat.le_trans (List.length_filter_le _ _) (by simp)
      · intro j i hj hl
        simp [Array.getD_eq_getD_getElem?, hj] at hl
      · rw [hall, Array.length_toList, ← List.range_eq_range']
        exact hRL
    | false =>
    rw [hbp] at h
    cases hbr : (ops.any isStore || c.rc.isSome) with
    | true =>
      rw [hbr] at h
      obtain ⟨e', H', L, l1, _, l3, l4, hk'⟩ := runW_of ops.toList [] 0 env H (fun j => by simp) h
      refine wp_region_any hg.1 (any_soundR hC hg.2 (R := RW c ops e' H') (Δ := Δ) (g0 := g0) (w0 := w0) (fun A i B oi e K hi ha hnb hR => RW.front hg.2 A i B oi e K hi ha hnb hR) (fun e K g a w hR hgl hS => ?_) ops.size _ env H a _ g (by simp) ?_ ?_ ?_ (hgl.trans (drew_glob g w)) hS.drew)
      · obtain ⟨rfl, rfl⟩ := hR.nil
        exact hk .normal Δ o g K e a w hk' hu hgl hS
      · exact Nat.le_trans (List.length_filter_le _ _) (by simp)
      · intro j i hj hl
        simp [Array.getD_eq_getD_getElem?, hj] at hl
      · rw [hall]
        exact ⟨L, l1, l3, l4⟩
    | false =>
      rw [hbr] at h
      obtain ⟨e', hrun, hk'⟩ := runN_of ops.toList 0 env (fun j => by simp) h
      refine wp_region_any hg.1 (any_sound hC hg.2 (e' := e') (Δ := Δ) (g0 := g0) (w0 := w0) (fun g a w hgl hS => hk .normal Δ o g H e' a w hk' hu hgl hS) ops.size _ env a _ g (by simp) ?_ ?_ ?_ (hgl.trans (drew_glob g w)) hS.drew)
      · exact Nat.le_trans (List.length_filter_le _ _) (by simp)
      · intro j i hj hl
        simp [Array.getD_eq_getD_getElem?, hj] at hl
      · rw [hall]
        exact hrun
  | .region id ops false, af, k, Q, g0, w0, out, hp, hk, hpl, env, a, w, g, H, Δ, o, hgl, hS, h, hu => by
    refine wp_region ?_
    have := dOps_sound (Q := Q) hC hrc hle (hk .normal) hpl ops.toList 0 env a w g H Δ o (fun j => by simp) hgl hS h hu
    rwa [List.range_eq_range', ← Array.length_toList]
  | .seq x y, af, k, Q, g0, w0, out, hp, hk, hpl, env, a, w, g, H, Δ, o, hgl, hS, h, hu => by
    refine wp_seq ?_
    refine den_sound hC hrc hle hL x ((rw y).1 ++ af) _ (Exit.then (y.wp c.P Q) Q) g0 w0 out (fun t ht => List.mem_append_right _ (hp t ht)) (fun e => ?_) hpl env a w g H Δ o hgl hS h hu
    cases e with
    | normal =>
      intro Δ o g H env a w h hu hgl hS
      have h : (bif c.rc.isNone && joinB x then L af y (keep ((rw y).1 ++ af) env) k else den c L af y env k) H = some o := h
      cases hj : (c.rc.isNone && joinB x) with
      | false =>
        rw [hj] at h
        exact den_sound hC hrc hle hL y af k Q g0 w0 out hp hk hpl _ a w g H Δ o hgl hS h hu
      | true =>
        rw [hj] at h
        exact hL af y k Q g0 w0 out hp hk hpl _ a w g H Δ o hgl (hS.keep (fun t ht => List.mem_append_right _ (hp t ht))) h hu
    | exit id => exact hk (.exit id)
    | ret => exact hk .ret
  | .cond q x y, af, k, Q, g0, w0, out, hp, hk, hpl, env, a, w, g, H, Δ, o, hgl, hS, h, hu => by
    have rq := ev_rep hS.tok q
    have h : condM (ev env q) (den c L af x env k) (den c L af y env k) H = some o := h
    unfold condM at h
    cases hv : ev env q with
    | bool b =>
      rw [hv] at h rq
      have hq := rq.bool
      dsimp only at h
      refine wp_cond hq ?_
      cases b
      · exact den_sound hC hrc hle hL y af k Q g0 w0 out hp hk hpl env a w g H Δ o hgl hS h hu
      · exact den_sound hC hrc hle hL x af k Q g0 w0 out hp hk hpl env a w g H Δ o hgl hS h hu
    | _ => (rw [hv] at h; exact (fail_ne (H := H) h).elim)
  | .block id b, af, k, Q, g0, w0, out, hp, hk, hpl, env, a, w, g, H, Δ, o, hgl, hS, h, hu => by
    refine wp_block ?_
    refine den_sound hC hrc hle hL b af _ (Exit.inBlock id Q) g0 w0 out hp (fun e => ?_) hpl env a w g H Δ o hgl hS h hu
    cases e with
    | normal => exact hk .normal
    | ret => exact hk .ret
    | exit i =>
      intro Δ o g H env a w h hu hgl hS
      by_cases hi : i = id
      · subst hi
        have h : (bif i == i then k .normal env else k (.exit i) env) H = some o := h
        rw [beq_self_eq_true] at h
        show if i = i then Q .normal a w else Q (.exit i) a w
        rw [if_pos rfl]
        exact hk .normal Δ o g H env a w h hu hgl hS
      · have h : (bif i == id then k .normal env else k (.exit i) env) H = some o := h
        have hb : (i == id) = false := by simpa using hi
        rw [hb] at h
        show if i = id then Q .normal a w else Q (.exit i) a w
        rw [if_neg hi]
        exact hk (.exit i) Δ o g H env a w h hu hgl hS
  | .loop b, af, k, Q, g0, w0, out, hp, hk, hpl, env, a, w, g, H, Δ, o, hgl, hS, h, hu =>
    hL af (.loop b) k Q g0 w0 out hp hk hpl _ a w g H Δ o hgl (hS.keep (fun t ht => List.mem_append_right _ (hp t ht))) h hu
  | .rangeFunc .., af, k, Q, g0, w0, out, hp, hk, hpl, env, a, w, g, H, Δ, o, hgl, hS, h, hu => (fail_ne (H := H) h).elim
  | .scope _, af, k, Q, g0, w0, out, hp, hk, hpl, env, a, w, g, H, Δ, o, hgl, hS, h, hu => (fail_ne (H := H) h).elim
  | .goto _, af, k, Q, g0, w0, out, hp, hk, hpl, env, a, w, g, H, Δ, o, hgl, hS, h, hu => (fail_ne (H := H) h).elim
  | .refuse _, af, k, Q, g0, w0, out, hp, hk, hpl, env, a, w, g, H, Δ, o, hgl, hS, h, hu => (fail_ne (H := H) h).elim
theorem exists_least (p : Nat → Prop) (h : ∃ n, p n) : ∃ n, p n ∧ ∀ m, p m → n ≤ m := by
  obtain ⟨n, hn⟩ := h
  induction n using Nat.strongRecOn with
  | _ n ih =>
    by_cases hl : ∃ m, m < n ∧ p m
    · obtain ⟨m, hm, hp⟩ := hl
      exact ih m hm hp
    · exact ⟨n, hn, fun m hm => by
        rcases Nat.lt_or_ge m n with h | h
        · exact absurd ⟨m, h, hm⟩ hl
        · exact h⟩
noncomputable def least (p : Nat → Prop) (h : ∃ n, p n) : Nat := Classical.choose (exists_least p h)
theorem least_spec (p : Nat → Prop) (h : ∃ n, p n) : p (least p h) := (Classical.choose_spec (exists_least p h)).1
theorem least_le (p : Nat → Prop) (h : ∃ n, p n) {m : Nat} (hm : p m) : least p h ≤ m := (Classical.choose_spec (exists_least p h)).2 m hm
/-! ### Loops, by depth -/
section
variable {P : Program} {X : ExtT}
variable {pr : List Tmp} {C1 C2 : CallT} {D1 D2 : Option PV → CallT} {rc : Option (Option PV)} {res : Env → M PV}
theorem defs_ctx : ∀ {Δ : List Dfr} {ds : List Deferred}, DefsOk ⟨P, pr, C1, D1, rc, res⟩ g env Δ ds → DefsOk ⟨P, pr, C2, D2, rc, res⟩ g env Δ ds
  | [], [], h => h
  | q :: Δ, δ :: ds, h => ⟨h.1, h.2.1, defs_ctx h.2.2⟩
  | [], _ :: _, h => h
  | _ :: _, [], h => h
theorem sta_ctx {a : Act} {Δ : List Dfr} (h : Sta ⟨P, pr, C1, D1, rc, res⟩ g H env a w Δ) : Sta ⟨P, pr, C2, D2, rc, res⟩ g H env a w Δ := ⟨h.inv, h.tok, defs_ctx h.defs⟩
theorem leaf_ctx {g0 : G} {w0 : World} {out : Out PV} {k : Env → M PV} {Q : Act → World → Prop} (h : Leaf CDN ⟨P, pr, C1, D1, rc, res⟩ g0 w0 out k Q) : Leaf CDN ⟨P, pr, C2, D2, rc, res⟩ g0 w0 out k Q :=
  fun Δ o g H env a w h1 h2 h3 h4 => h Δ o g H env a w h1 h2 h3 (sta_ctx h4)
theorem panLeaf_ctx {g0 : G} {w0 : World} {out : Out PV} {Q : List PanicEntry → Act → World → Prop} (h : PanLeaf CDN ⟨P, pr, C1, D1, rc, res⟩ g0 w0 out Q) : PanLeaf CDN ⟨P, pr, C2, D2, rc, res⟩ g0 w0 out Q :=
  fun Δ v H g env a w cv h1 h2 h4 h5 => h Δ v H g env a w cv h1 h2 (sta_ctx h4) h5
theorem sem_CD_le (n : Nat) (r : Option PV) (f : FuncId) (a : List PV) : ∀ {m : Nat}, n ≤ m → Le ((sem P X n).CD r f a) ((sem P X m).CD r f a) := by
  intro m h
  induction h with
  | refl => exact Le.refl _
  | step _ ih => exact fun H q hq => (sem_step P X _).CD r f a H q (ih H q hq)
/-- The loops of depth n, where all calls of smaller depth are sound. -/
theorem loop_sound (N : Nat) (hCs : ∀ m, m < N → CSound P (sem P X m).C) (C0 : CallT) (D0 : Option PV → CallT) (CDN : Option PV → CallT)
    (hle : ∀ m, m < N → ∀ r f a, Le ((sem P X m).CD r f a) (CDN r f a)) (n : Nat) (hn : n ≤ N) : LSound CDN ⟨P, pr, C0, D0, none, res⟩ ((sem P X n).L none pr res) := by
  induction n using Nat.strongRecOn with
  | _ n ih =>
  intro af co k Q g0 w0 out hp hk hpl env a w g H Δ o hgl hS h hu
  classical
  by_cases hco : ∃ b, co = .loop b
  case neg =>
    cases n with
    | zero => exact (fail_ne (H := H) h).elim
    | succ m =>
      have h : den ⟨P, pr, (sem P X m).C, (sem P X m).CD, none, res⟩ ((sem P X m).L none pr res) af co env k H = some o := by
        cases co with
        | loop b => exact absurd ⟨b, rfl⟩ hco
        | _ => exact h
      refine den_sound (c := ⟨P, pr, (sem P X m).C, (sem P X m).CD, none, res⟩) (CDN := CDN) (hCs m (by omega)) rfl (hle m (by omega)) (L := (sem P X m).L none pr res) ?_ co af _ _ g0 w0 out hp (fun e => leaf_ctx (hk e)) (panLeaf_ctx hpl) env a w g H Δ o hgl (sta_ctx hS) h hu
      intro af' b' k' Q' g0' w0' out' hp' hk' hpl' env' a' w' g' H' Δ' o' hgl' hS' h' hu'
      exact ih m (by omega) (by omega) af' b' k' Q' g0' w0' out' hp' (fun e => leaf_ctx (hk' e)) (panLeaf_ctx hpl') env' a' w' g' H' Δ' o' hgl' (sta_ctx hS') h' hu'
  obtain ⟨b, rfl⟩ := hco
  -- what holds at the head of a round with depth m
  let J : Nat → Act → World → Prop := fun m a w => m ≤ n ∧ ∃ env g H Δ o, Glob g0 w0 g w ∧ Sta ⟨P, pr, C0, D0, none, res⟩ g H env a w Δ ∧ (sem P X m).L none pr res af (.loop b) env k H = some o ∧ unw CDN Δ o = some out
  let μ : Act → World → Nat := fun a w => if hh : ∃ m, J m a w then least (fun m => J m a w) hh else 0
  refine wp_loop (fun a w => ∃ m, J m a w) μ ⟨n, Nat.le_refl n, env, g, H, Δ, o, hgl, hS, h, hu⟩ ?_
  intro a w hI
  have hμ : μ a w = least (fun m => J m a w) hI := by
    show (if hh : ∃ m, J m a w then least (fun m => J m a w) hh else 0) = _
    rw [dif_pos hI]
  obtain ⟨hmN, env, g, H, Δ, o, hgl, hS, h, hu⟩ := least_spec (fun m => J m a w) hI
  cases hm : least (fun m => J m a w) hI with
  | zero =>
    rw [hm] at h
    exact (fail_ne (H := H) h).elim
  | succ m =>
    rw [hm] at h hmN
    have hstep : Code.wp P b (Exit.then (fun a' w' => J m a' w') Q) a w := by
      refine den_sound (c := ⟨P, pr, (sem P X m).C, (sem P X m).CD, none, res⟩) (CDN := CDN) (hCs m (by omega)) rfl (hle m (by omega)) (L := (sem P X m).L none pr res) ?_ b (alive af b) _ _ g0 w0 out (fun t ht => List.mem_append_right _ (hp t ht)) (fun e => ?_) ?_ env a w g H Δ o hgl (sta_ctx hS) h hu
      · intro af' b' k' Q' g0' w0' out' hp' hk' hpl' env' a' w' g' H' Δ' o' hgl' hS' h' hu'
        exact ih m (by omega) (by omega) af' b' k' Q' g0' w0' out' hp' (fun e => leaf_ctx (hk' e)) (panLeaf_ctx hpl') env' a' w' g' H' Δ' o' hgl' (sta_ctx hS') h' hu'
      · cases e with
        | normal =>
          intro Δ o g H env a w h hu hgl hS
          exact ⟨by omega, _, g, H, Δ, o, hgl, (sta_ctx hS).keep (fun t ht => List.mem_append_right _ (hp t ht)), h, hu⟩
        | exit id => exact leaf_ctx (hk (.exit id))
        | ret => exact leaf_ctx (hk .ret)
      · exact panLeaf_ctx hpl
    refine wp_mono hstep fun e a' w' hq => ?_
    cases e with
    | normal =>
      have hJ : J m a' w' := hq
      refine ⟨⟨m, hJ⟩, ?_⟩
      rw [hμ, hm]
      have : μ a' w' = least (fun m => J m a' w') ⟨m, hJ⟩ := by
        show (if hh : ∃ m, J m a' w' then least (fun m => J m a' w') hh else 0) = _
        rw [dif_pos ⟨m, hJ⟩]
      rw [this]
      exact Nat.lt_succ_of_le (least_le (fun m => J m a' w') _ hJ)
    | _ => exact hq
end
end Go.Proofs.Ytofbbijagbpicaa.Pi
/- Results. -/
namespace Go.Proofs.Ytofbbijagbpicaa.Pi
set_option linter.unusedVariables false
set_option linter.unusedSimpArgs false
variable {P : Program} {g : G} {L L' : Owner} {w w' : World} {H : Heap} {x : Nat} {env : Env}
def resRun (tm : Array Value) : ResultVar → Sem Value
  | .tmp t => pure (tm.getD t undef)
  | .cell a t => do loadVar t (← asAddr (tm.getD a undef))
theorem results_run {fn : Func} {tm : Array Value} {vs : List Value} (h : (fn.results.toList.mapM (resRun tm)).run P w = .ok vs w) : (results fn tm).run P w = .ok (if h : vs.length = 1 then vs[0] else .tuple vs.toArray) w := by
  have e : results fn tm = (do let vs ← fn.results.mapM (resRun tm); pure (if h : vs.size = 1 then vs[0] else .tuple vs)) := by
    unfold results
    congr 1
  rw [e, Array.mapM_eq_mapM_toList]
  simp only [Sem.run_bind, Sem.run_map, h, Result.andThen_ok, Sem.run_pure, Result.ok.injEq, and_true]
  by_cases h1 : vs.length = 1
  · rw [dif_pos h1, dif_pos (by simpa using h1)]
    simp
  · rw [dif_neg h1, dif_neg (by simpa using h1)]
/-- Out of a temporary into a place among the results. -/
def mvRes (s j : Nat) : Owner → Owner
  | .tmp t => if t = s then .sub .res j else .tmp t
  | M => M
theorem TOk.moveRes {tm : Array Value} (h : TOk x g env tm) (s j : Nat) : TOk x (g.ren (mvRes s j)) (env.set s (strip (env.getD s .undef))) tm := by
  have hl := h.len
  refine ⟨h.one, by simp [h.len], fun t u q hu hq => ?_, fun t q ht hq => ?_⟩
  · by_cases e : s = t
    · subst e
      have h2 : s < env.length := by
        have := (List.getElem?_eq_some_iff.mp hq).1
        simpa using this
      rw [List.getElem?_set_self h2] at hq
      simp only [Option.some.injEq] at hq
      subst hq
      have : env.getD s .undef = env[s] := by simp [List.getD, List.getElem?_eq_getElem h2]
      rw [this]
      exact (h.val s u _ hu (List.getElem?_eq_getElem h2)).stripRen _ _
    · rw [List.getElem?_set_ne e] at hq
      refine (h.val t u q hu hq).ren ?_ (fun j => rfl)
      show (if t = s then _ else _) = _
      rw [if_neg (fun h => e h.symm)]
  · have h3 := h.giveUp (some (s, none))
    exact h3.slot t q ht hq
def IsResUp : Owner → Prop
  | .up _ => True
  | .sub .res _ => True
  | _ => False
theorem RepT.notTup {p : PV} {v : Value} (h : RepT g L p v) (hn : isTup p = false) : RepS g L p v := by
  cases h with
  | one h => exact h
  | tup => simp [isTup] at hn
/-- The results, one after the other. -/
theorem resV_ok {tm : Array Value} {k : List PV → M PV} {o : Out PV} : ∀ (rs : List ResultVar) (env : Env) (acc : List PV) (g : G) (H : Heap), resV P env rs acc k H = some o → Inv g H w → TOk x g env tm →
    (∃ v H', o = .pan v H' ∧ False) ∨ ∃ pvs cvs g' H', (rs.mapM (resRun tm)).run P w = .ok cvs w ∧ k (acc.reverse ++ pvs) H' = some o ∧ Inv g' H' w ∧ Glob g w g' w ∧ Grow IsResUp g g' ∧ pvs.length = cvs.length ∧
      ∀ (j : Nat) (p : PV) (v : Value), pvs[j]? = some p → cvs[j]? = some v → RepS g' (.sub .res (acc.length + j)) p v
  | [], env, acc, g, H, h, hi, hT => .inr ⟨[], [], g, H, by simp, by simpa [resV] using h, hi, Glob.refl _ _, Grow.refl _ _, rfl, fun j p v hp => by simp at hp⟩
  | .tmp t :: r, env, acc, g, H, h, hi, hT => by
    refine .inr ?_
    unfold resV at h
    have rt := ev_tmp hT t
    cases ht : isTup (env.getD t .undef) with
    | true => rw [ht] at h; exact (fail_ne (H := H) h).elim
    | false =>
      rw [ht] at h
      dsimp only [cond_false] at h
      rcases resV_ok r _ _ (g.ren (mvRes t acc.length)) H h (hi.ren (fun _ _ => rfl)) (hT.moveRes t acc.length) with ⟨_, _, _, hf⟩ | ⟨pvs, cvs, g', H', e1, e2, e3, e4, e5, e6, e7⟩
      · exact hf.elim
      refine ⟨env.getD t .undef :: pvs, tm.getD t undef :: cvs, g', H', ?_, ?_, e3, (ren_glob (w := w) (fun M => rfl)).trans e4, (ren_grow (fun M hM => by cases M <;> first | rfl | exact hM.elim)).trans e5, by simp [e6], fun j p v hp hv => ?_⟩
      · simp only [List.mapM_cons, Sem.run_bind, resRun, Sem.run_pure, Result.andThen_ok, e1]
      · simpa using e2
      · cases j with
        | zero =>
          simp at hp hv
          subst hp; subst hv
          have h1 : RepS (g.ren (mvRes t acc.length)) (.sub .res acc.length) (env.getD t .undef) (tm.getD t undef) := by
            refine (rt.notTup ht).ren ?_
            show (if t = t then _ else _) = _
            rw [if_pos rfl]
          have h1 := h1.mono e5 (L := .sub .res acc.length) True.intro
          simpa using h1
        | succ j =>
          have := e7 j p v (by simpa using hp) (by simpa using hv)
          simpa [Nat.add_assoc, Nat.add_comm 1 j] using this
  | .cell a t :: r, env, acc, g, H, h, hi, hT => by
    refine .inr ?_
    unfold resV at h
    obtain ⟨hk, h⟩ := guardM_some h
    unfold M.bind at h
    have rt := ev_tmp hT a
    cases hld : ld (tagg P t) true (env.getD a .undef) H with
    | none => rw [hld] at h; simp at h
    | some o1 =>
      rw [hld] at h
      obtain ⟨v, H1, cv, g1, rfl, h1, h2, h3, h4, h5⟩ := ld_mvS (P := P) (w := w) (tm.size + acc.length + 1) hk hld hi rt
      dsimp only at h
      obtain ⟨hnt, h⟩ := guardM_some h
      have hnt : isTup v = false := by simpa using hnt
      have hT1 : TOk x g1 env tm := hT.mono h3 (fun M hM => by cases M <;> first | exact True.intro | exact hM.elim)
      have hT2 : TOk x (g1.ren (mvRes (tm.size + acc.length + 1) acc.length)) env tm := by
        refine ⟨hT1.one, hT1.len, fun t' u q hu hq => (hT1.val t' u q hu hq).ren ?_ (fun j => rfl), hT1.slot⟩
        show (if t' = tm.size + acc.length + 1 then _ else _) = _
        rw [if_neg (by have := (Array.getElem?_eq_some_iff.mp hu).1; omega)]
      have hload : (resRun tm (.cell a t)).run P w = .ok cv w := by
        unfold resRun
        have h1' := h1
        unfold Instr.loadAt at h1'
        cases hv : tm.getD a undef with
        | pointer p =>
          rw [hv] at h1'
          cases p with
          | none => simp [Instr.sureAddr] at h1'
          | some ad =>
            dsimp only
            rw [hv]
            simpa [Instr.sureAddr, asAddr] using h1'
        | _ => rw [hv] at h1'; simp [Instr.sureAddr] at h1'
      rcases resV_ok r env (v :: acc) (g1.ren (mvRes (tm.size + acc.length + 1) acc.length)) H1 h (h4.ren (fun _ _ => rfl)) hT2 with ⟨_, _, _, hf⟩ | ⟨pvs, cvs, g', H', e1, e2, e3, e4, e5, e6, e7⟩
      · exact hf.elim
      · refine ⟨v :: pvs, cv :: cvs, g', H', ?_, by simpa using e2, e3, h2.trans ((ren_glob (w := w) (fun M => rfl)).trans e4), ?_, by simp [e6], fun j p u hp hu => ?_⟩
        · simp only [List.mapM_cons, Sem.run_bind, hload, Sem.run_pure, Result.andThen_ok, e1]
        · exact (h3.sub (fun M hM => by cases M <;> first | exact True.intro | exact hM.elim)).trans ((ren_grow (fun M hM => by cases M <;> first | rfl | exact hM.elim)).trans e5)
        · cases j with
          | zero =>
            simp at hp hu
            subst hp; subst hu
            have h6 := (h5.notTup hnt).ren (f := mvRes (tm.size + acc.length + 1) acc.length) (L' := .sub .res acc.length) (by
              show (if tm.size + acc.length + 1 = tm.size + acc.length + 1 then _ else _) = _
              rw [if_pos rfl])
            have h7 := h6.mono e5 (L := .sub .res acc.length) True.intro
            simpa using h7
          | succ j =>
            have := e7 j p u (by simpa using hp) (by simpa using hu)
            simpa [Nat.add_assoc, Nat.add_comm 1 j] using this
end Go.Proofs.Ytofbbijagbpicaa.Pi
/- Leaving a function. -/
namespace Go.Proofs.Ytofbbijagbpicaa.Pi
set_option linter.unusedVariables false
set_option linter.unusedSimpArgs false
variable {P : Program} {g : G} {L L' : Owner} {w w' : World} {H : Heap} {x : Nat} {env : Env}
/-- The places of the results, told and true. -/
def CellsAtR (g : G) (e : Env) (tm : Array Value) (rs : List ResultVar) : Prop :=
  ∀ r ∈ rs, ∃ a t id off b, r = .cell a t ∧ e.getD a .undef = .ptr id off ∧ g.ι[id]? = some b ∧ tm.getD a undef = .pointer (some ⟨b, off, none⟩)
theorem resC_ok {tm : Array Value} {k : List PV → M PV} {o : Out PV} {e : Env} : ∀ (rs : List ResultVar) (acc : List PV) (g : G) (H : Heap), resV P e rs acc k H = some o → Inv g H w → CellsAtR g e tm rs →
    ∃ pvs cvs g' H', (rs.mapM (resRun tm)).run P w = .ok cvs w ∧ k (acc.reverse ++ pvs) H' = some o ∧ Inv g' H' w ∧ Glob g w g' w ∧ Grow IsResUp g g' ∧ pvs.length = cvs.length ∧
      ∀ (j : Nat) (p : PV) (v : Value), pvs[j]? = some p → cvs[j]? = some v → RepS g' (.sub .res (acc.length + j)) p v
  | [], acc, g, H, h, hi, hT => ⟨[], [], g, H, by simp, by simpa [resV] using h, hi, Glob.refl _ _, Grow.refl _ _, rfl, fun j p v hp => by simp at hp⟩
  | r0 :: r, acc, g, H, h, hi, hT => by
    obtain ⟨a, t, id, off, b, rfl, he, hb, hv⟩ := hT r0 List.mem_cons_self
    unfold resV at h
    obtain ⟨hk, h⟩ := guardM_some h
    unfold M.bind at h
    rw [he] at h
    have rt : RepT g (.tmp 0) (.ptr id off) (tm.getD a undef) := by rw [hv]; exact rT (.ptr hb) _
    cases hld : ld (tagg P t) true (.ptr id off) H with
    | none => rw [hld] at h; simp at h
    | some o1 =>
      rw [hld] at h
      obtain ⟨v, H1, cv, g1, rfl, h1, h2, h3, h4, h5⟩ := ld_mvS (P := P) (w := w) (tm.size + acc.length + 1) hk hld hi rt
      dsimp only at h
      obtain ⟨hnt, h⟩ := guardM_some h
      have hnt : isTup v = false := by simpa using hnt
      have hload : (resRun tm (.cell a t)).run P w = .ok cv w := by
        unfold resRun
        have h1' := h1
        unfold Instr.loadAt at h1'
        dsimp only
        rw [hv] at h1' ⊢
        simpa [Instr.sureAddr, asAddr] using h1'
      have hT2 : CellsAtR (g1.ren (mvRes (tm.size + acc.length + 1) acc.length)) e tm r := fun q hq => by
        obtain ⟨a, t, id, off, b, e1, e2, e3, e4⟩ := hT q (List.mem_cons_of_mem _ hq)
        exact ⟨a, t, id, off, b, e1, e2, h2.up.ι _ _ e3, e4⟩
      obtain ⟨pvs, cvs, g', H', e1, e2, e3, e4, e5, e6, e7⟩ := resC_ok r (v :: acc) (g1.ren (mvRes (tm.size + acc.length + 1) acc.length)) H1 h (h4.ren (fun _ _ => rfl)) hT2
      refine ⟨v :: pvs, cv :: cvs, g', H', ?_, by simpa using e2, e3, h2.trans ((ren_glob (w := w) (fun M => rfl)).trans e4), ?_, by simp [e6], fun j p u hp hu => ?_⟩
      · simp only [List.mapM_cons, Sem.run_bind, hload, Sem.run_pure, Result.andThen_ok, e1]
      · exact (h3.sub (fun M hM => by cases M <;> first | exact True.intro | exact hM.elim)).trans ((ren_grow (fun M hM => by cases M <;> first | rfl | exact hM.elim)).trans e5)
      · cases j with
        | zero =>
          simp at hp hu
          subst hp; subst hu
          have h6 := (h5.notTup hnt).ren (f := mvRes (tm.size + acc.length + 1) acc.length) (L' := .sub .res acc.length) (by
            show (if tm.size + acc.length + 1 = tm.size + acc.length + 1 then _ else _) = _
            rw [if_pos rfl])
          have h7 := h6.mono e5 (L := .sub .res acc.length) True.intro
          simpa using h7
        | succ j =>
          have := e7 j p u (by simpa using hp) (by simpa using hu)
          simpa [Nat.add_assoc, Nat.add_comm 1 j] using this
def oneRes : Owner → Owner
  | .sub .res 0 => .res
  | M => M
def resFin : List PV → M PV
  | [v] => M.pure v
  | vs => M.pure (.tup vs)
/-- The results, whole. -/
theorem res_whole {fn : Func} {tm : Array Value} {o : Out PV} {pvs : List PV} {cvs : List Value} {g' : G} {H' : Heap} (e1 : (fn.results.toList.mapM (resRun tm)).run P w = .ok cvs w)
    (e2 : resFin pvs H' = some o) (e3 : Inv g' H' w) (e4 : Glob g w g' w) (e6 : pvs.length = cvs.length)
    (e7 : ∀ (j : Nat) (p : PV) (v : Value), pvs[j]? = some p → cvs[j]? = some v → RepS g' (.sub .res j) p v) :
    ∃ v cv g2, o = .ok v H' ∧ (results fn tm).run P w = .ok cv w ∧ Inv g2 H' w ∧ Glob g w g2 w ∧ RepT g2 .res v cv := by
  have hr := results_run e1
  match pvs, cvs, e6 with
  | [], [], _ =>
    simp only [resFin, M.pure, Option.some.injEq] at e2
    exact ⟨_, _, g', e2.symm, hr, e3, e4, .tup rfl fun j p v hp => by simp at hp⟩
  | [p], [cv], _ =>
    simp only [resFin, M.pure, Option.some.injEq] at e2
    refine ⟨p, cv, g'.ren oneRes, e2.symm, by simpa using hr, e3.ren (fun _ _ => rfl), e4.trans (ren_glob (fun _ => rfl)), .one ((e7 0 p cv rfl rfl).ren rfl)⟩
  | p :: q :: r, cp :: cq :: cr, h6 =>
    simp only [resFin, M.pure, Option.some.injEq] at e2
    refine ⟨_, .tuple (cp :: cq :: cr).toArray, g', e2.symm, by rw [hr]; simp, e3, e4, .tup (by simpa using h6.symm) fun j u v hu hv => e7 j u v hu (by simpa using hv)⟩
theorem resM_ok {fn : Func} {tm : Array Value} {o : Out PV} (h : resM P fn env H = some o) (hi : Inv g H w) (hT : TOk x g env tm) :
    ∃ v H' cv g2, o = .ok v H' ∧ (results fn tm).run P w = .ok cv w ∧ Inv g2 H' w ∧ Glob g w g2 w ∧ RepT g2 .res v cv := by
  rcases resV_ok (w := w) fn.results.toList env [] g H h hi hT with ⟨_, _, _, hf⟩ | ⟨pvs, cvs, g', H', e1, e2, e3, e4, e5, e6, e7⟩
  · exact hf.elim
  · obtain ⟨v, cv, g2, a, b, c, d, e⟩ := res_whole (fn := fn) e1 (by rcases pvs with _ | ⟨p, _ | ⟨q, r⟩⟩ <;> exact e2) e3 e4 e6 (by simpa using e7)
    exact ⟨v, H', cv, g2, a, b, c, d, e⟩
theorem resMC_ok {fn : Func} {tm : Array Value} {o : Out PV} (h : resM P fn env H = some o) (hi : Inv g H w) (hT : CellsAtR g env tm fn.results.toList) :
    ∃ v H' cv g2, o = .ok v H' ∧ (results fn tm).run P w = .ok cv w ∧ Inv g2 H' w ∧ Glob g w g2 w ∧ RepT g2 .res v cv := by
  obtain ⟨pvs, cvs, g', H', e1, e2, e3, e4, e5, e6, e7⟩ := resC_ok (w := w) fn.results.toList [] g H h hi hT
  obtain ⟨v, cv, g2, a, b, c, d, e⟩ := res_whole (fn := fn) e1 (by rcases pvs with _ | ⟨p, _ | ⟨q, r⟩⟩ <;> exact e2) e3 e4 e6 (by simpa using e7)
  exact ⟨v, H', cv, g2, a, b, c, d, e⟩
/-- The deferred calls, one after the other. -/
theorem leaves_ok {CDN : Option PV → CallT} {c : Ctx} {fn : Func} {tm : Array Value} {R : Ending → World → Prop} {g0 : G} {w0 : World} {out0 : Out PV} (hCD : CDSound P CDN) (hres : c.res = resM P fn)
    (hprot : c.prot ≠ [] → ∀ r ∈ fn.results.toList, ∃ a t, r = .cell a t ∧ a ∈ c.prot)
    (hR : ∀ g v H cv w, out0 = .ok v H → Glob g0 w0 g w → Inv g H w → RepT g .res v cv → R (.returned cv) w) :
    ∀ (Δ : List Dfr) (d : Dfr) (δ : Deferred) (ds : List Deferred) (o : Out PV) (g : G) (H : Heap) (w : World) (u : FrameMode), (match o with | .ok _ H' => H' = H ∧ u = .returning | .pan p H' => H' = H ∧ ∃ cv, u = .panicking [{ v := cv, recovered := false }] ∧ Rep g.ι g.im p cv) →
      Inv g H w → DefsOk c g env (d :: Δ) (δ :: ds) → unw CDN (d :: Δ) o = some out0 → Glob g0 w0 g w → (∀ t ∈ c.prot, ∀ id off, env.getD t .undef = .ptr id off → ∃ b, g.ι[id]? = some b ∧ tm.getD t undef = .pointer (some ⟨b, off, none⟩)) →
      Leaves P fn tm R (δ :: ds) u w
  | Δ, d, δ, ds, o, g, H, w, u, ho, hi, ⟨⟨cap, cargs, hδ, hargs⟩, ⟨hne, ed, hed, hpt⟩, hrest⟩, hu, hgl, hpr => by
    subst hδ
    -- the call itself
    have hcall : ∃ rv v H2, CDN rv d.f d.args H = some (.ok v H2) ∧ ModeOk g rv u ∧ ∃ o', d.res H2 = some o' ∧ unw CDN Δ o' = some out0 ∧ settle (tookMode v u) = .returning := by
      have hu' : (dstep CDN d o).bind (unw CDN Δ) = some out0 := hu
      obtain ⟨o', hd, hΔ⟩ := Option.bind_eq_some_iff.mp hu'
      cases o with
      | ok v0 H' =>
        obtain ⟨rfl, rfl⟩ := ho
        have hd : M.bind (CDN none d.f d.args) (fun _ => d.res) H' = some o' := hd
        unfold M.bind at hd
        cases hc : CDN none d.f d.args H' with
        | none => rw [hc] at hd; simp at hd
        | some o1 =>
          obtain ⟨_, v, H2, rfl, _⟩ := hCD _ _ _ _ _ hc
          rw [hc] at hd
          refine ⟨none, v, H2, hc, rfl, o', hd, hΔ, ?_⟩
          unfold tookMode
          split <;> first | rfl | (rename_i h; cases h) | rfl
      | pan p H' =>
        obtain ⟨rfl, cv, rfl, hrp⟩ := ho
        have hd : M.bind (CDN (some p) d.f d.args) (fun r => match r with | .tup [] => d.res | _ => M.fail) H' = some o' := hd
        unfold M.bind at hd
        cases hc : CDN (some p) d.f d.args H' with
        | none => rw [hc] at hd; simp at hd
        | some o1 =>
          obtain ⟨_, v, H2, rfl, _⟩ := hCD _ _ _ _ _ hc
          rw [hc] at hd
          dsimp only at hd
          split at hd
          · exact ⟨some p, .tup [], H2, hc, ⟨cv, rfl, hrp⟩, o', hd, hΔ, rfl⟩
          · exact (fail_ne (H := H2) hd).elim
    obtain ⟨rv, v, H2, hc, hm, o', hres', hΔ, hset⟩ := hcall
    obtain ⟨hcal, v', H2', hov, hsound⟩ := hCD _ _ _ _ _ hc
    simp only [Out.ok.injEq] at hov
    obtain ⟨rfl, rfl⟩ := hov
    refine leaves_cons ?_ (by
      show (callFunc d.f (cargs ++ cap)).run P w = _
      exact run_callFunc hcal) ((hsound g w _ u hi hargs hm).mono ?_)
    · intro e
      cases rv with
      | none => have hm : u = .returning := hm; rw [hm] at e; cases e
      | some p => obtain ⟨cv, hm, _⟩ := hm; rw [hm] at e; cases e
    rintro e u' w1 ⟨g1, cv, hgl1, hgr1, rfl, hi1, rfl⟩
    show Leaves P fn tm R ds (settle (tookMode v u)) w1
    rw [hset]
    have hcells : CellsAtR g1 ed tm fn.results.toList := by
      intro r hr
      obtain ⟨a, t, rfl, hap⟩ := hprot hne r hr
      obtain ⟨id, off, h1, h2⟩ := hpt a hap
      obtain ⟨b, hb, htv⟩ := hpr a hap id off h2
      exact ⟨a, t, id, off, b, rfl, h1, hgr1.ι _ _ hb, htv⟩
    rw [hed, hres] at hres'
    obtain ⟨vr, H3, cvr, g3, rfl, hrun, hi3, hgl3, hrep3⟩ := resMC_ok (tm := tm) hres' hi1 hcells
    cases Δ with
    | nil =>
      have hds : ds = [] := by cases ds <;> first | rfl | exact hrest.elim
      subst hds
      have : out0 = .ok vr H3 := by
        have : some (Out.ok vr H3) = some out0 := hΔ
        exact (Option.some.inj this).symm
      exact ⟨cvr, hrun, hR g3 vr H3 cvr w1 this (hgl.trans (hgl1.trans hgl3)) hi3 hrep3⟩
    | cons d2 Δ2 =>
      cases ds with
      | nil => exact hrest.elim
      | cons δ2 ds2 =>
        refine leaves_ok hCD hres hprot hR Δ2 d2 δ2 ds2 (.ok vr H3) g3 H3 w1 .returning ⟨rfl, rfl⟩ hi3 (DefsOk.step (hgl1.trans hgl3).up.ι (hgl1.trans hgl3).up.im (fun t _ id off he => he) hrest) hΔ (hgl.trans (hgl1.trans hgl3)) (fun t ht id off he => ?_)
        obtain ⟨b, hb, htv⟩ := hpr t ht id off he
        exact ⟨b, (hgl1.trans hgl3).up.ι _ _ hb, htv⟩
end Go.Proofs.Ytofbbijagbpicaa.Pi
/- A function, called. -/
namespace Go.Proofs.Ytofbbijagbpicaa.Pi
set_option linter.unusedVariables false
set_option linter.unusedSimpArgs false
variable {P : Program} {g : G} {L L' : Owner} {w w' : World} {H : Heap} {x : Nat} {env : Env}
theorem upF_grow : Grow (fun _ => False) g (g.ren upF) := ren_grow (fun M hM => hM.elim)
theorem enter_tok {args : List PV} {cargs : Array Value} {n : Nat} (h : ArgsOk g args cargs) : TOk 0 (g.ren upF) (args ++ List.replicate (n - args.length) .undef) (cargs ++ Array.replicate (n - cargs.size) undef) := by
  have hs := h.size
  refine ⟨by omega, by simp [hs], fun t v p hv hp => ?_, fun t p ht hp => ?_⟩
  · by_cases ht : t < args.length
    · rw [List.getElem?_append_left ht] at hp
      rw [Array.getElem?_append_left (by omega)] at hv
      obtain ⟨r, s⟩ := h.rep t p v hp hv
      exact r.still s (g' := g.ren upF) (fun _ _ h => h) (fun _ _ _ h => h) _
    · rw [List.getElem?_append_right (by omega)] at hp
      have : p = .undef := by
        have := List.mem_of_getElem? hp
        simpa using (List.mem_replicate.mp this).2
      subst this
      exact .one (.undef _)
  · have h1 := (List.getElem?_eq_some_iff.mp hp).1
    simp [hs] at ht h1
    omega
theorem glob_len {g' : G} (h : Glob g w g' w') : g.ι.length ≤ g'.ι.length := by
  rcases Nat.lt_or_ge g'.ι.length g.ι.length with h1 | h1
  · exfalso
    have h2 := h.up.ι g'.ι.length _ (List.getElem?_eq_getElem h1)
    have := (List.getElem?_eq_some_iff.mp h2).1
    omega
  · exact h1
/-- What the body showed is what the call shows. -/
theorem post_ok {g1 : G} {w1 : World} {v : PV} {cv : Value} {H' : Heap} (hH : g.ι.length = H.length) (hgl : Glob (g.ren upF) w g1 w1) (hi : Inv g1 H' w1) (hr : RepT g1 .res v cv) :
    CallPost g w (.ok v (bif v.low H.length then H'.take H.length else H')) (.returned cv) w1 := by
  have hlen : g.ι.length ≤ g1.ι.length := glob_len (g := g.ren upF) hgl
  have hi2 : Inv (g1.ren downF) H' w1 := hi.ren (fun _ _ => rfl)
  have hr2 : RepT (g1.ren downF) .res v cv := hr.ren rfl (fun _ => rfl)
  cases hl : v.low H.length with
  | true =>
    obtain ⟨a, b⟩ := out_of hgl (n := H.length) (by omega)
    exact ⟨_, a, b, cv, rfl, hi2.take (by have := hi.len; omega), hr2.lowT hl⟩
  | false =>
    obtain ⟨a, b⟩ := out_of hgl (n := g1.ι.length) hlen
    have e : ({ (g1.ren downF) with ι := g1.ι.take g1.ι.length } : G) = g1.ren downF := by simp [G.ren]
    rw [e] at a b
    exact ⟨_, a, b, cv, rfl, hi2, hr2⟩
theorem postPan_ok {g1 : G} {w1 : World} {v : PV} {cv : Value} {H' : Heap} (hH : g.ι.length = H.length) (hgl : Glob (g.ren upF) w g1 w1) (hi : Inv g1 H' w1) (hl : v.low H.length = true) (hr : Rep g1.ι g1.im v cv) :
    CallPost g w (.pan v (H'.take H.length)) (.panicked [{ v := cv, recovered := false }]) w1 := by
  have hlen : g.ι.length ≤ g1.ι.length := glob_len (g := g.ren upF) hgl
  have hi2 : Inv (g1.ren downF) H' w1 := hi.ren (fun _ _ => rfl)
  obtain ⟨a, b⟩ := out_of hgl (n := H.length) (by omega)
  exact ⟨_, a, b, cv, rfl, hi2.take (by have := hi.len; omega), hr.low hl⟩
def isCellR : ResultVar → Bool
  | .cell _ _ => true
  | _ => false
def cellOf : ResultVar → Option Tmp
  | .tmp _ => none
  | .cell a _ => some a
theorem protOf_eq (fn : Func) : protOf fn = bif fn.results.toList.all isCellR then fn.results.toList.filterMap cellOf else [] := rfl
theorem protOf_spec {fn : Func} (h : protOf fn ≠ []) : ∀ r ∈ fn.results.toList, ∃ a t, r = .cell a t ∧ a ∈ protOf fn := by
  intro r hr
  rw [protOf_eq] at h ⊢
  cases hc : fn.results.toList.all isCellR with
  | false => rw [hc] at h; exact absurd rfl h
  | true =>
    have h1 := List.all_eq_true.mp hc r hr
    cases r with
    | tmp t => cases h1
    | cell a t => exact ⟨a, t, rfl, List.mem_filterMap.mpr ⟨_, hr, rfl⟩⟩
theorem prot_res {fn : Func} : ∀ t ∈ protOf fn, t ∈ resTmps fn := by
  intro t ht
  rw [protOf_eq] at ht
  cases hc : fn.results.toList.all isCellR with
  | false => rw [hc] at ht; simp at ht
  | true =>
    rw [hc] at ht
    obtain ⟨r, hr, he⟩ := List.mem_filterMap.mp ht
    cases r with
    | tmp s => cases he
    | cell a s =>
      cases he
      exact List.mem_map.mpr ⟨_, hr, rfl⟩
theorem fnDen_sound {C : CallT} {CD : Option PV → CallT} {LL : Option (Option PV) → List Tmp → (Env → M PV) → LoopT} (hC : CSound P C) (hCD : CDSound P CD)
    (hL : ∀ fn, LSound CD ⟨P, protOf fn, C, CD, none, resM P fn⟩ (LL none (protOf fn) (resM P fn))) {f : FuncId} {args : List PV} {out : Out PV} (h : fnDen P C CD LL f args H = some out) :
    callable P f = true ∧ ∀ g w cargs, Inv g H w → ArgsOk g args cargs → Calls P f cargs w (CallPost g w out) := by
  unfold fnDen at h
  cases hf : P.funcs[f]? with
  | none => rw [hf] at h; exact (fail_ne (H := H) h).elim
  | some fn =>
    rw [hf] at h
    dsimp only at h
    cases hb : fn.body with
    | none => rw [hb] at h; exact (fail_ne (H := H) h).elim
    | some b =>
      rw [hb] at h
      dsimp only at h
      obtain ⟨hn, h⟩ := guardM_some h
      refine ⟨by unfold callable; rw [hf]; simp only [hn, hb]; rfl, fun g w cargs hi ha => ?_⟩
      unfold trunc at h
      generalize hm : den _ _ _ _ _ _ H = r at h
      cases r with
      | none => simp at h
      | some out0 =>
        have hret : ∀ g1 v H' cv w1, out0 = .ok v H' → Glob (g.ren upF) w g1 w1 → Inv g1 H' w1 → RepT g1 .res v cv → CallPost g w out (.returned cv) w1 := by
          intro g1 v H' cv w1 ho hgl hi1 hr
          subst ho
          simp only [Option.some.injEq] at h
          subst h
          exact post_ok hi.len hgl hi1 hr
        have hpan : ∀ g1 v H' cv w1, out0 = .pan v H' → Glob (g.ren upF) w g1 w1 → Inv g1 H' w1 → Rep g1.ι g1.im v cv → CallPost g w out (.panicked [{ v := cv, recovered := false }]) w1 := by
          intro g1 v H' cv w1 ho hgl hi1 hr
          subst ho
          have h : (bif v.low H.length then some (Out.pan v (H'.take H.length)) else none) = some out := h
          cases hl : v.low H.length with
          | false => rw [hl] at h; simp at h
          | true =>
            rw [hl] at h
            simp only [cond_true, Option.some.injEq] at h
            subst h
            exact postPan_ok hi.len hgl hi1 hl hr
        refine calls_of_wp_defers hf hb ?_
        have hptr : ∀ {env : Env} {a : Act} {g1 : G} {tm : Array Value}, TOk 0 g1 env tm → ∀ t ∈ protOf fn, ∀ id off, env.getD t .undef = .ptr id off → ∃ b, g1.ι[id]? = some b ∧ tm.getD t undef = .pointer (some ⟨b, off, none⟩) := by
          intro env a g1 tm hT t _ id off he
          have := ev_tmp hT t
          rw [he] at this
          exact this.ptr
        refine den_sound (c := ⟨P, protOf fn, C, CD, none, resM P fn⟩) (CDN := CD) hC rfl (fun _ _ _ => Le.refl _) (hL fn) b (resTmps fn) _ (bodyPostD P fn (CallPost g w out)) (g.ren upF) w out0 prot_res (fun e => ?_) ?_ _ _ w (g.ren upF) H [] out0 (Glob.refl _ _) ⟨hi.ren (fun _ _ => rfl), enter_tok ha, True.intro⟩ hm rfl
        · -- the end of the body
          have fin : ∀ Δ o g1 H1 env a w1, resM P fn env H1 = some o → unw CD Δ o = some out0 → Glob (g.ren upF) w g1 w1 → Sta ⟨P, protOf fn, C, CD, none, resM P fn⟩ g1 H1 env a w1 Δ → Leaves P fn a.tmps (CallPost g w out) a.defers .returning w1 := by
            intro Δ o g1 H1 env a w1 hk hu hgl hS
            obtain ⟨v, H', cv, g2, rfl, hrun, hi2, hgl2, hr2⟩ := resM_ok hk hS.inv hS.tok
            have hd := hS.defs
            cases Δ with
            | nil =>
              cases hdf : a.defers with
              | cons δ ds => rw [hdf] at hd; exact hd.elim
              | nil =>
                have ho : out0 = .ok v H' := (Option.some.inj hu).symm
                exact ⟨cv, hrun, hret g2 v H' cv w1 ho (hgl.trans hgl2) hi2 hr2⟩
            | cons d Δ =>
              cases hdf : a.defers with
              | nil => rw [hdf] at hd; exact hd.elim
              | cons δ ds =>
                rw [hdf] at hd
                refine leaves_ok hCD rfl (fun hne => protOf_spec hne) (fun g v H cv w h1 h2 h3 h4 => hret g v H cv w h1 h2 h3 h4) Δ d δ ds (.ok v H') g2 H' w1 .returning ⟨rfl, rfl⟩ hi2 (DefsOk.step hgl2.up.ι hgl2.up.im (fun t _ id off he => he) hd) hu (hgl.trans hgl2) (fun t ht id off he => ?_)
                obtain ⟨b, hb, htv⟩ := hptr (a := a) hS.tok t ht id off he
                exact ⟨b, hgl2.up.ι _ _ hb, htv⟩
          cases e with
          | normal => exact fin
          | ret => exact fin
          | exit id => exact fun Δ o g1 H1 env a w1 hk => (fail_ne (H := H1) hk).elim
        · -- a panic
          intro Δ v H1 g1 env a w1 cv hu hgl hS hr
          have hd := hS.defs
          show Leaves P fn a.tmps (CallPost g w out) a.defers (.panicking [{ v := cv, recovered := false }]) w1
          cases Δ with
          | nil =>
            cases hdf : a.defers with
            | cons δ ds => rw [hdf] at hd; exact hd.elim
            | nil => exact hpan g1 v H1 cv w1 (Option.some.inj hu).symm hgl hS.inv hr
          | cons d Δ =>
            cases hdf : a.defers with
            | nil => rw [hdf] at hd; exact hd.elim
            | cons δ ds =>
              rw [hdf] at hd
              exact leaves_ok hCD rfl (fun hne => protOf_spec hne) (fun g v H cv w h1 h2 h3 h4 => hret g v H cv w h1 h2 h3 h4) Δ d δ ds (.pan v H1) g1 H1 w1 _ ⟨rfl, cv, rfl, hr⟩ hS.inv hd hu hgl (hptr (a := a) hS.tok)
end Go.Proofs.Ytofbbijagbpicaa.Pi
/- Deferred calls, that may take a panic. -/
namespace Go.Proofs.Ytofbbijagbpicaa.Pi
set_option linter.unusedVariables false
set_option linter.unusedSimpArgs false
variable {P : Program} {g : G} {L L' : Owner} {w w' : World} {H : Heap} {x : Nat} {env : Env}
/-- The last place: whether the panic is taken. -/
def slotV (env : Env) : PV := env.getD (env.length - 1) .undef
theorem ModeOk.mono {rv : Option PV} {u : FrameMode} (h : ModeOk g rv u) {g' : G} (hι : ∀ (i b : Nat), g.ι[i]? = some b → g'.ι[i]? = some b) (him : ∀ b o v, g.im b o = some v → g'.im b o = some v) : ModeOk g' rv u := by
  cases rv with
  | none => exact h
  | some p => obtain ⟨cv, h1, h2⟩ := h; exact ⟨cv, h1, h2.mono hι him⟩
theorem slot_is {tm : Array Value} (hT : TOk 1 g env tm) : slotV env = .undef ∨ slotV env = .tup [] := by
  have hl := hT.len
  have h1 : env.length - 1 < env.length := by omega
  unfold slotV
  rw [List.getD_eq_getElem?_getD, List.getElem?_eq_getElem h1]
  exact hT.slot (env.length - 1) _ (by omega) (List.getElem?_eq_getElem h1)
theorem slot_giveUp {tm : Array Value} (hT : TOk 1 g env tm) (s : Option (Tmp × Option Nat)) : slotV (giveUp env s) = slotV env := by
  have hs := slot_is hT
  unfold slotV at hs ⊢
  rw [giveUp_length]
  unfold giveUp
  split
  · rw [getD_set]
    split
    · rename_i hh
      rw [hh.1]
      exact strip_slot hs
    · rfl
  · rw [getD_set]
    split
    · rename_i hh
      rw [hh.1]
      exact tupDrop_slot _ hs
    · rfl
  · rfl
theorem slot_set {d : Nat} {v : PV} (hd : d + 1 < env.length) : slotV (env.set d v) = slotV env := by
  unfold slotV
  rw [List.length_set, getD_set, if_neg (by omega)]
theorem okDst_lt {pr : List Tmp} {d : Tmp} (h : okDst true pr env (some d) = true) : d + 1 < env.length := by
  unfold okDst at h
  simp only [Bool.and_eq_true, Bool.or_eq_true, Bool.not_eq_true', decide_eq_true_eq] at h
  rcases h.2 with h1 | h1
  · cases h1
  · exact h1
theorem slot_put {rc : Option (Option PV)} {pr : List Tmp} {ops : Array Oper} {o : Oper} {v : PV} {tm : Array Value} (hT : TOk 1 g env tm) (hr : isRecover o = false) (hd : okDst true pr env o.dst = true) : slotV (put rc ops env o v) = slotV env := by
  have htook : took rc o (giveUp env (given ops o)) = giveUp env (given ops o) := by
    unfold took
    simp [hr]
  unfold Pi.put
  rw [htook]
  cases hdst : o.dst with
  | none => exact slot_giveUp hT _
  | some d =>
    rw [hdst] at hd
    have h1 := okDst_lt hd
    show slotV ((giveUp env (given ops o)).set d v) = _
    rw [slot_set (by rw [giveUp_length]; exact h1)]
    exact slot_giveUp hT _
/-- How a deferred frame stands. -/
structure StaD (c : Ctx) (rv : Option PV) (u : FrameMode) (g : G) (H : Heap) (env : Env) (a : Act) (w : World) (m : FrameMode) : Prop where
  sta : Sta c g H env a w []
  mode : ModeOk g rv u
  now : m = tookMode (slotV env) u
  defs : a.defers = []
theorem put_defers (a : Act) (d : Option Tmp) (v : Value) : (a.put d v).defers = a.defers := by cases d <;> rfl
theorem defsNil {c : Ctx} {a : Act} (h : a.defers = []) : DefsOk c g env [] a.defers := by rw [h]; exact True.intro
theorem TOk.took {tm : Array Value} (h : TOk 1 g env tm) : TOk 1 g (env.set (env.length - 1) (.tup [])) tm := by
  have hl := h.len
  refine ⟨h.one, by simp [hl], fun t v p hv hp => ?_, fun t p ht hp => ?_⟩
  · have h1 := (Array.getElem?_eq_some_iff.mp hv).1
    rw [List.getElem?_set_ne (by omega)] at hp
    exact h.val t v p hv hp
  · by_cases e : env.length - 1 = t
    · subst e
      rw [List.getElem?_set_self (by omega)] at hp
      cases hp
      exact .inr rfl
    · rw [List.getElem?_set_ne e] at hp
      exact h.slot t p ht hp
theorem sta_took {c : Ctx} {rv : Option PV} {u m : FrameMode} {a : Act} {ops : Array Oper} {o : Oper} {v : PV} {cv : Value} (hrc : c.rc = some rv) (hS : StaD c rv u g H env a w m) (hrec : isRecover o = true) (hgv : given ops o = none)
    (hd : okDst true c.prot env o.dst = true) (hv : ∀ L, RepT g L v cv) : Sta c g H (put c.rc ops env o v) (a.put o.dst cv) w [] ∧ slotV (put c.rc ops env o v) = .tup [] := by
  have hT : TOk 1 g env a.tmps := by
    have := hS.sta.tok
    rw [hrc] at this
    exact this
  have hl := hT.len
  have htook : took c.rc o (giveUp env (given ops o)) = env.set (env.length - 1) (.tup []) := by
    rw [hgv, hrc]
    unfold took giveUp
    simp [hrec]
  have hs : slotV (env.set (env.length - 1) (.tup [])) = .tup [] := by
    unfold slotV
    rw [List.length_set, getD_set, if_pos ⟨rfl, by omega⟩]
  have hx : xOf c.rc = 1 := by rw [hrc]; rfl
  refine ⟨⟨hS.sta.inv, ?_, by rw [put_defers]; exact defsNil (by rw [hS.defs])⟩, ?_⟩
  · unfold Pi.put
    rw [htook, hx]
    cases hdst : o.dst with
    | none => exact hT.took
    | some d =>
      rw [hdst] at hd
      exact hT.took.put (.inr (by rw [List.length_set]; exact okDst_lt hd)) (hv _)
  · unfold Pi.put
    rw [htook]
    cases hdst : o.dst with
    | none => exact hs
    | some d =>
      rw [hdst] at hd
      show slotV ((env.set (env.length - 1) (.tup [])).set d v) = _
      rw [slot_set (by rw [List.length_set]; exact okDst_lt hd)]
      exact hs
theorem tookMode_ret (v : PV) : tookMode v .returning = .returning := by
  unfold tookMode
  split <;> first | rfl | (rename_i h; cases h) | rfl
def LeafD (c : Ctx) (rv : Option PV) (u : FrameMode) (c0 : Frame) (cs0 : List Frame) (g0 : G) (w0 : World) (out : Out PV) (k : Env → M PV) (Q : Act → List Frame → World → Prop) : Prop :=
  ∀ env a w g H m, Glob g0 w0 g w → StaD c rv u g H env a w m → k env H = some out → Q a ({ c0 with mode := m } :: cs0) w
variable {c : Ctx} {rv : Option PV} {u : FrameMode} {c0 : Frame} {cs0 : List Frame} {g0 : G} {w0 : World} {v0 : PV} {H0 : Heap}
theorem dOpsS_sound (hC : CSound c.P c.C) (hrc : c.rc = some rv) {ops : Array Oper} {k : Env → M PV} {Q : Exit → Act → List Frame → World → Prop} (hleaf : LeafD c rv u c0 cs0 g0 w0 (.ok v0 H0) k (Q .normal)) :
    ∀ (l : List Oper) (i : Nat) (env : Env) (a : Act) (w : World) (g : G) (H : Heap) (m : FrameMode), (∀ j, l[j]? = ops[i + j]?) → (∀ o ∈ l, simpleOp o = true) → Glob g0 w0 g w → StaD c rv u g H env a w m →
      dOps c ops l env k H = some (.ok v0 H0) → wpOpsS c.P ops Q (List.range' i l.length) a ({ c0 with mode := m } :: cs0) w
  | [], i, env, a, w, g, H, m, hl, hs, hgl, hS, h => hleaf env a w g H m hgl hS h
  | o :: r, i, env, a, w, g, H, m, hl, hs, hgl, hS, h => by
    have hr : ∀ j, r[j]? = ops[i + 1 + j]? := fun j => by
      have := hl (j + 1)
      rw [List.getElem?_cons_succ] at this
      rw [this]
      congr 1
      omega
    have ho : ops[i]? = some o := by
      have := hl 0
      simpa using this.symm
    have hso := hs o List.mem_cons_self
    have hsr : ∀ o ∈ r, simpleOp o = true := fun q hq => hs q (List.mem_cons_of_mem _ hq)
    rw [List.length_cons, range'_cons]
    simp only [wpOpsS, ho]
    rw [dOps_cons] at h
    obtain ⟨hok, h⟩ := guardM_some h
    have hok' : okDst true c.prot env o.dst = true := by
      rw [hrc] at hok
      exact hok
    have hT : TOk 1 g env a.tmps := by
      have := hS.sta.tok
      rw [hrc] at this
      exact this
    have h : M.bind (gval c.P c.C c.rc ops env o) (fun v => dOps c ops r (put c.rc ops env o v) k) H = some (.ok v0 H0) := by
      obtain ⟨dst, op, ty, pos, after, guard⟩ := o
      cases op <;> first | exact h | (simp [simpleOp] at hso)
    unfold M.bind at h
    cases hg : gval c.P c.C c.rc ops env o H with
    | none => rw [hg] at h; simp at h
    | some o1 =>
      rw [hg] at h
      cases o1 with
      | pan v H1 => simp at h
      | ok v H1 =>
        have hnx : dOps c ops r (put c.rc ops env o v) k H1 = some (.ok v0 H0) := h
        clear h
        cases hrec : isRecover o with
        | false =>
          have hst := op_step (Q := fun e a w => Q e a ({ c0 with mode := m } :: cs0) w) (next := fun a w => wpOpsS c.P ops Q (List.range' (i + 1) r.length) a ({ c0 with mode := m } :: cs0) w)
            hC (.inr hrec) hS.sta hok hg (fun v' H1' g' a' w' he hgl' hS' => by
              cases he
              have hda : a'.defers = [] := by
                have := hS'.defs
                cases hd : a'.defers with
                | nil => rfl
                | cons x y => rw [hd] at this; exact this.elim
              refine dOpsS_sound hC hrc hleaf r (i + 1) _ a' w' g' H1 m hr hsr (hgl.trans hgl') ⟨hS', hS.mode.mono hgl'.up.ι hgl'.up.im, ?_, hda⟩ hnx
              rw [slot_put hT hrec hok']
              exact hS.now) (fun v' H1' g' w' cv he => by cases he)
          split
          · rename_i hw
            rw [if_pos hw] at hst
            unfold Oper.wp at hst
            generalize (execOp a.eval o).run c.P w = q at hst ⊢
            split
            · exact (show False from hst).elim
            · exact hst
          · rename_i hw
            rw [if_neg hw] at hst
            exact hst
        | true =>
          obtain ⟨dst, op, ty, pos, after, guard⟩ := o
          cases op with
          | call cl =>
            obtain ⟨callee, args, tys⟩ := cl
            cases callee with
            | builtin b =>
              cases b with
              | recover =>
                have hgd : guard = none := by
                  cases guard with
                  | none => rfl
                  | some q => simp [simpleOp, hrec] at hso
                subst hgd
                have hv : v = recV c.rc env ∧ H1 = H := by
                  have hg2 : opVal c.P c.C c.rc ops env ⟨dst, .call ⟨.builtin .recover, args, tys⟩, ty, pos, after, none⟩ H = some (.ok v H1) := hg
                  rw [hrc] at hg2 ⊢
                  have hg3 : M.pure (recV (some rv) env) H = some (.ok v H1) := hg2
                  simp only [M.pure, Option.some.injEq, Out.ok.injEq] at hg3
                  exact ⟨hg3.1.symm, hg3.2.symm⟩
                obtain ⟨rfl, rfl⟩ := hv
                have hrun : (execOp a.eval ⟨dst, .call ⟨.builtin .recover, args, tys⟩, ty, pos, after, none⟩).run c.P w = .ok .recover w := rfl
                have hw : Region.wanted ⟨dst, .call ⟨.builtin .recover, args, tys⟩, ty, pos, after, none⟩ (yielded ops a.tmps) = true := rfl
                rw [if_pos hw, hrun]
                dsimp only
                have fin : ∀ (cv : Value) (m' : FrameMode), (∀ L, RepT g L (recV c.rc env) cv) → m' = tookMode (.tup []) u → wpOpsS c.P ops Q (List.range' (i + 1) r.length) (a.put dst cv) ({ c0 with mode := m' } :: cs0) w := by
                  intro cv m' hv hm
                  obtain ⟨h1, h2⟩ := sta_took (ops := ops) hrc hS hrec rfl hok' hv
                  exact dOpsS_sound hC hrc hleaf r (i + 1) _ _ w g H1 m' hr hsr hgl ⟨h1, hS.mode, by rw [h2]; exact hm, by rw [put_defers]; exact hS.defs⟩ hnx
                have hnil : ∀ L, RepT g L .niliface .nilIface := fun L => rT (.flat .niliface) _
                have hmode := hS.mode
                have hnow := hS.now
                cases rv with
                | none =>
                  have hu : u = .returning := hmode
                  subst hu
                  rw [tookMode_ret] at hnow
                  subst hnow
                  refine fin .nilIface _ (fun L => ?_) (tookMode_ret _).symm
                  rw [hrc]
                  exact hnil L
                | some p =>
                  obtain ⟨cv, rfl, hp⟩ := hmode
                  rcases slot_is hT with hsl | hsl
                  · rw [hsl] at hnow
                    subst hnow
                    refine fin cv _ (fun L => ?_) rfl
                    have : recV c.rc env = p := by
                      rw [hrc]
                      unfold recV
                      show (match slotV env with | .tup [] => PV.niliface | _ => p) = p
                      rw [hsl]
                    rw [this]
                    exact rT hp L
                  · rw [hsl] at hnow
                    subst hnow
                    refine fin .nilIface _ (fun L => ?_) rfl
                    have : recV c.rc env = .niliface := by
                      rw [hrc]
                      unfold recV
                      show (match slotV env with | .tup [] => PV.niliface | _ => p) = _
                      rw [hsl]
                    rw [this]
                    exact hnil L
              | _ => cases hrec
            | _ => cases hrec
          | _ => cases hrec
theorem slot_put' {rc : Option (Option PV)} {pr : List Tmp} {ops : Array Oper} {o : Oper} {v : PV} (hs : slotV env = .undef ∨ slotV env = .tup []) (hr : isRecover o = false) (hd : okDst true pr env o.dst = true) : slotV (put rc ops env o v) = slotV env := by
  have hg : slotV (giveUp env (given ops o)) = slotV env := by
    unfold slotV at hs ⊢
    rw [giveUp_length]
    unfold giveUp
    split
    · rw [getD_set]
      split
      · rename_i hh
        rw [hh.1]
        exact strip_slot hs
      · rfl
    · rw [getD_set]
      split
      · rename_i hh
        rw [hh.1]
        exact tupDrop_slot _ hs
      · rfl
    · rfl
  have htook : took rc o (giveUp env (given ops o)) = giveUp env (given ops o) := by
    unfold took
    simp [hr]
  unfold Pi.put
  rw [htook]
  cases hdst : o.dst with
  | none => exact hg
  | some d =>
    rw [hdst] at hd
    have h1 := okDst_lt hd
    show slotV ((giveUp env (given ops o)).set d v) = _
    rw [slot_set (by rw [giveUp_length]; exact h1)]
    exact hg
theorem denS_sound (hC : CSound c.P c.C) (hrc : c.rc = some rv) {LL : LoopT} :
    ∀ (co : Code) (af : List Tmp) (k : K) (Q : Exit → Act → List Frame → World → Prop), simpleB co = true → (∀ e, LeafD c rv u c0 cs0 g0 w0 (.ok v0 H0) (k e) (Q e.to)) →
      ∀ env a w g H m, Glob g0 w0 g w → StaD c rv u g H env a w m → den c LL af co env k H = some (.ok v0 H0) → co.wpS c.P Q a ({ c0 with mode := m } :: cs0) w
  | .skip, af, k, Q, hs, hk, env, a, w, g, H, m, hgl, hS, h => wpS_of_wp (wp_skip (hk .normal env a w g H m hgl hS h))
  | .ret, af, k, Q, hs, hk, env, a, w, g, H, m, hgl, hS, h => wpS_of_wp (wp_ret (hk .ret env a w g H m hgl hS h))
  | .region id ops false, af, k, Q, hs, hk, env, a, w, g, H, m, hgl, hS, h => by
    refine wpS_region ?_
    have hs' : ∀ o ∈ ops.toList, simpleOp o = true := fun o ho => List.all_eq_true.mp hs o ho
    have := dOpsS_sound (Q := Q) hC hrc (hk .normal) ops.toList 0 env a w g H m (fun j => by simp) hs' hgl hS h
    rwa [List.range_eq_range', ← Array.length_toList]
  | .region id ops true, af, k, Q, hs, hk, env, a, w, g, H, m, hgl, hS, h => by
    have h : guardM (c.P.follows .mixedOrders && commB ops) (bif modeP ops && c.rc.isNone then dOpsP c ops env (k .normal) else bif ops.any isStore || c.rc.isSome then dOpsW c ops 0 [] ops.toList env (k .normal) else dOpsN c ops ops.toList env (k .normal)) H = some (.ok v0 H0) := h
    obtain ⟨hg, h⟩ := guardM_some h
    simp only [Bool.and_eq_true] at hg
    have hbr : (ops.any isStore || c.rc.isSome) = true := by rw [hrc]; simp
    have hbp : (modeP ops && c.rc.isNone) = false := by rw [hrc]; simp
    rw [hbp, hbr] at h
    have hT : TOk 1 g env a.tmps := by
      have := hS.sta.tok
      rw [hrc] at this
      exact this
    obtain ⟨e', H', L, l1, _, l3, l4, hk'⟩ := runW_of ops.toList [] 0 env H (fun j => by simp) h
    refine wpS_of_wp (wp_region_any hg.1 (any_soundR (c := c) (Q := fun e a w => Q e a ({ c0 with mode := m } :: cs0) w) hC hg.2 (R := fun l e K => slotV e = slotV env ∧ RW c ops e' H' l e K) (Δ := []) (g0 := g) (w0 := w)
      (fun A i B oi e K hi ha hnb hR => ?_) (fun e K g' a' w' hR hgl' hS' => ?_) ops.size _ env H a _ g (by simp) ?_ ?_ ?_ (drew_glob g w) hS.sta.drew))
    · obtain ⟨r1, r2⟩ := hR
      obtain ⟨h1, v, H1, h2, h3⟩ := RW.front hg.2 A i B oi e K hi ha hnb r2
      refine ⟨h1, v, H1, h2, ?_, h3⟩
      rw [hrc] at h1
      rw [slot_put' (by rw [r1]; exact slot_is hT) (commB_spec hg.2 hi).1 h1, r1]
    · obtain ⟨r1, r2⟩ := hR
      obtain ⟨rfl, rfl⟩ := r2.nil
      refine hk .normal e a' w' g' K m (hgl.trans hgl') ⟨hS', hS.mode.mono hgl'.up.ι hgl'.up.im, by rw [r1]; exact hS.now, ?_⟩ hk'
      have := hS'.defs
      cases hd : a'.defers with
      | nil => rfl
      | cons x y => rw [hd] at this; exact this.elim
    · exact Nat.le_trans (List.length_filter_le _ _) (by simp)
    · intro j i hj hl
      simp [Array.getD_eq_getD_getElem?, hj] at hl
    · refine ⟨rfl, ?_⟩
      have hall : restOf ops (Array.replicate ops.size false) = List.range' 0 ops.toList.length := by
        unfold restOf
        rw [List.filter_eq_self.mpr, List.range_eq_range', Array.length_toList]
        intro i hi
        simp [Array.getD_eq_getD_getElem?, List.mem_range.mp hi]
      rw [hall]
      exact ⟨L, l1, l3, l4⟩
  | .seq y z, af, k, Q, hs, hk, env, a, w, g, H, m, hgl, hS, h => by
    have hs1 : simpleB y = true ∧ simpleB z = true := by simpa [simpleB] using hs
    refine wpS_seq (denS_sound hC hrc y ((rw z).1 ++ af) _ (Exit.thenS (z.wpS c.P Q) Q) hs1.1 (fun e => ?_) env a w g H m hgl hS h)
    cases e with
    | normal =>
      intro env a w g H m hgl hS h
      have h : (bif c.rc.isNone && joinB y then LL af z (keep ((rw z).1 ++ af) env) k else den c LL af z env k) H = some (.ok v0 H0) := h
      rw [hrc] at h
      exact denS_sound hC hrc z af k Q hs1.2 hk env a w g H m hgl hS h
    | exit id => exact hk (.exit id)
    | ret => exact hk .ret
  | .cond q y z, af, k, Q, hs, hk, env, a, w, g, H, m, hgl, hS, h => by
    have hs1 : simpleB y = true ∧ simpleB z = true := by simpa [simpleB] using hs
    have rq := ev_rep hS.sta.tok q
    have h : condM (ev env q) (den c LL af y env k) (den c LL af z env k) H = some (.ok v0 H0) := h
    unfold condM at h
    cases hv : ev env q with
    | bool b =>
      rw [hv] at h rq
      have hq := rq.bool
      dsimp only at h
      refine wpS_cond hq ?_
      cases b
      · exact denS_sound hC hrc z af k Q hs1.2 hk env a w g H m hgl hS h
      · exact denS_sound hC hrc y af k Q hs1.1 hk env a w g H m hgl hS h
    | _ => (rw [hv] at h; exact (fail_ne (H := H) h).elim)
theorem TOk.slotted {tm : Array Value} (h : TOk 0 g env tm) : TOk 1 g (env ++ [.undef]) tm := by
  have hl := h.len
  refine ⟨Nat.le_refl 1, by simp [hl], fun t v p hv hp => ?_, fun t p ht hp => ?_⟩
  · have h1 := (Array.getElem?_eq_some_iff.mp hv).1
    rw [List.getElem?_append_left (by omega)] at hp
    exact h.val t v p hv hp
  · rw [List.getElem?_append_right (by omega)] at hp
    have := List.mem_of_getElem? hp
    exact .inl (by simpa using this)
theorem noPan_some {m : M PV} {o : Out PV} (h : noPan m H = some o) : ∃ v H', o = .ok v H' ∧ m H = some (.ok v H') := by
  unfold noPan at h
  split at h
  · rename_i v H' hm
    cases h
    exact ⟨v, H', rfl, hm⟩
  · cases h
theorem trunc_ok {m : M PV} {v : PV} {H' : Heap} (h : trunc m H = some (.ok v H')) : ∃ H1, m H = some (.ok v H1) ∧ H' = bif v.low H.length then H1.take H.length else H1 := by
  unfold trunc at h
  split at h
  · cases h
  · rename_i v1 H1 hm
    cases h
    exact ⟨H1, hm, rfl⟩
  · rename_i v1 H1 hm
    cases hl : v1.low H.length <;> rw [hl] at h <;> cases h
theorem fnDenD_sound {C : CallT} {CD : Option PV → CallT} {LL : Option (Option PV) → List Tmp → (Env → M PV) → LoopT} (hC : CSound P C) {rv : Option PV} {f : FuncId} {args : List PV} {out : Out PV} (h : fnDenD P C CD LL rv f args H = some out) :
    callable P f = true ∧ ∃ v H', out = .ok v H' ∧ ∀ g w cargs u, Inv g H w → ArgsOk g args cargs → ModeOk g rv u →
      CallsD P f cargs u w fun e u' w' => ∃ g' cv, Glob g w g' w' ∧ Grow NonCell g g' ∧ e = .returned cv ∧ Inv g' H' w' ∧ u' = tookMode v u := by
  unfold fnDenD at h
  cases hf : P.funcs[f]? with
  | none => rw [hf] at h; exact (fail_ne (H := H) h).elim
  | some fn =>
    rw [hf] at h
    dsimp only at h
    cases hb : fn.body with
    | none => rw [hb] at h; exact (fail_ne (H := H) h).elim
    | some b =>
      rw [hb] at h
      dsimp only at h
      obtain ⟨hn, h⟩ := guardM_some h
      simp only [Bool.and_eq_true] at hn
      obtain ⟨hsb, hre, hn⟩ := hn
      obtain ⟨v, H', rfl, h2⟩ := noPan_some h
      obtain ⟨H1, h3, rfl⟩ := trunc_ok h2
      refine ⟨by unfold callable; rw [hf]; simp only [hn, hb]; rfl, v, _, rfl, fun g w cargs u hi ha hm => ?_⟩
      refine callsD_of_wpS hf hb fun c₀ cs hu => ?_
      have hend : ∀ (env : Env) (a : Act) (w1 : World) (g1 : G) (H2 : Heap) (m : FrameMode), Glob (g.ren upF) w g1 w1 → StaD ⟨P, protOf fn, C, CD, some rv, resM P fn⟩ rv u g1 H2 env a w1 m → M.pure (env.getD (env.length - 1) .undef) H2 = some (.ok v H1) →
          a.defers = [] ∧ ∃ u', ({ c₀ with mode := m } : Frame) :: cs = { c₀ with mode := u' } :: cs ∧ ∃ vv, (results fn a.tmps).run P w1 = .ok vv w1 ∧ ∃ g' cv, Glob g w g' w1 ∧ Grow NonCell g g' ∧ Ending.returned vv = .returned cv ∧ Inv g' (bif v.low H.length then H1.take H.length else H1) w1 ∧ u' = tookMode v u := by
        intro env a w1 g1 H2 m hgl hS hp
        simp only [M.pure, Option.some.injEq, Out.ok.injEq] at hp
        obtain ⟨hv, rfl⟩ := hp
        have hrs : (results fn a.tmps).run P w1 = .ok (.tuple #[]) w1 := by
          have he : fn.results.toList = [] := by
            have : fn.results = #[] := by simpa using hre
            rw [this]
          have := results_run (P := P) (w := w1) (fn := fn) (tm := a.tmps) (vs := []) (by rw [he]; rfl)
          simpa using this
        have hsl : v = .undef ∨ v = .tup [] := by
          have := slot_is (hS.sta.tok : TOk 1 g1 env a.tmps)
          rw [← hv]
          exact this
        have hrep : RepT g1 .res v (.tuple #[]) := by
          rcases hsl with rfl | rfl
          · exact .one (.undef _)
          · exact .tup rfl fun j p q hp => by simp at hp
        obtain ⟨g', h1, h2, cv, h3, h4, h5⟩ := post_ok hi.len hgl hS.sta.inv hrep
        refine ⟨hS.defs, m, rfl, _, hrs, g', cv, h1, h2, h3, h4, ?_⟩
        rw [hS.now, ← hv]
        rfl
      have hst : StaD ⟨P, protOf fn, C, CD, some rv, resM P fn⟩ rv u (g.ren upF) H (args ++ List.replicate (fn.ntmps - args.length) .undef ++ [.undef]) { tmps := cargs ++ Array.replicate (fn.ntmps - cargs.size) undef, defers := [] } w u := by
        refine ⟨⟨hi.ren (fun _ _ => rfl), (enter_tok ha).slotted, True.intro⟩, hm.mono (fun _ _ h => h) (fun _ _ _ h => h), ?_, rfl⟩
        have : slotV (args ++ List.replicate (fn.ntmps - args.length) .undef ++ [.undef]) = .undef := by
          unfold slotV
          simp
        rw [this]
        unfold tookMode
        split <;> first | rfl | (rename_i h; cases h)
      have := denS_sound (c := ⟨P, protOf fn, C, CD, some rv, resM P fn⟩) (u := u) (c0 := c₀) (cs0 := cs) (g0 := g.ren upF) (w0 := w) hC rfl b (fn.ntmps :: resTmps fn) _ (bodyPostS P fn c₀ cs fun e u' w' => ∃ g' cv, Glob g w g' w' ∧ Grow NonCell g g' ∧ e = .returned cv ∧ Inv g' (bif v.low H.length then H1.take H.length else H1) w' ∧ u' = tookMode v u) hsb (fun e => ?_) _ _ w (g.ren upF) H u (Glob.refl _ _) hst h3
      · have e : ({ c₀ with mode := u } : Frame) = c₀ := by rw [← hu]
        rw [e] at this
        exact this
      · cases e with
        | normal => exact fun env a w g H m hgl hS h => hend env a w g H m hgl hS h
        | ret => exact fun env a w g H m hgl hS h => hend env a w g H m hgl hS h
        | exit id => exact fun env a w g H m hgl hS h => (fail_ne (H := H) h).elim
end Go.Proofs.Ytofbbijagbpicaa.Pi
/- All calls told are right. -/
namespace Go.Proofs.Ytofbbijagbpicaa.Pi
set_option linter.unusedVariables false
set_option linter.unusedSimpArgs false
variable {P : Program} {X : ExtT} {H : Heap}
/-- What is told of functions from elsewhere. -/
def XSound (P : Program) (X : ExtT) : Prop :=
  ∀ f m, X f = some m → ∀ args H out, m args H = some out → callable P f = true ∧ ∀ g w cargs, Inv g H w → ArgsOk g args cargs → Calls P f cargs w (CallPost g w out)
theorem sem_sound (hX : XSound P X) (n : Nat) : CSound P (sem P X n).C ∧ CDSound P (sem P X n).CD := by
  induction n using Nat.strongRecOn with
  | _ n ih =>
    cases n with
    | zero => exact ⟨fun f args H out h => (fail_ne (H := H) h).elim, fun rv f args H out h => (fail_ne (H := H) h).elim⟩
    | succ n =>
      have hn := ih n (Nat.lt_succ_self n)
      refine ⟨fun f args H out h => ?_, fun rv f args H out h => fnDenD_sound hn.1 h⟩
      have h : (match X f with | some m => m args | none => fnDen P (sem P X n).C (sem P X n).CD (sem P X n).L f args) H = some out := h
      cases hf : X f with
      | some m => rw [hf] at h; exact hX f m hf args H out h
      | none =>
        rw [hf] at h
        exact fnDen_sound hn.1 hn.2 (fun fn => loop_sound n (fun m hm => (ih m (by omega)).1) _ _ _ (fun m hm r f a => sem_CD_le m r f a (by omega)) n (Nat.le_refl n)) h
theorem callW_sound (hX : XSound P X) : CSound P (callW P X) := by
  intro f args H out h
  obtain ⟨n, hn⟩ := ((cv_call P X f args).lim H out).mp h
  exact (sem_sound hX n).1 f args H out hn
theorem noX : XSound P (fun _ => none) := fun f m h => by cases h
end Go.Proofs.Ytofbbijagbpicaa.Pi
/- Places in the code, by name: joins and loops. -/
namespace Go.Proofs.Ytofbbijagbpicaa.Pi
set_option linter.unusedVariables false
/-- The code at a place, with what is behind it. -/
noncomputable def kAt (c : Ctx) (L : LoopT) : List Nat → List Tmp → Code → K → List Tmp × Code × K
  | [], af, co, k => (af, co, k)
  | 0 :: p, af, .seq a b, k => kAt c L p ((rw b).1 ++ af) a fun
    | .normal, env' => bif c.rc.isNone && joinB a then L af b (keep ((rw b).1 ++ af) env') k else den c L af b env' k
    | e, env' => k e env'
  | _ :: p, af, .seq a b, k => kAt c L p af b k
  | 0 :: p, af, .cond _ a b, k => kAt c L p af a k
  | _ :: p, af, .cond _ a b, k => kAt c L p af b k
  | _ :: p, af, .block id b, k => kAt c L p af b fun
    | .exit i, env' => bif i == id then k .normal env' else k (.exit i) env'
    | e, env' => k e env'
  | _ :: p, af, .loop b, k => kAt c L p (alive af b) b fun
    | .normal, env' => L af (.loop b) (keep (alive af b) env') k
    | e, env' => k e env'
  | _, af, co, k => (af, co, k)
section
variable (P : Program) (X : ExtT)
noncomputable def kOf (f : FuncId) (p : List Nat) : List Tmp × Code × K :=
  match P.funcs[f]? with
  | some fn => match fn.body with
    | some b => kAt (ctxW P X none (protOf fn) (resM P fn)) (loopW P X none (protOf fn) (resM P fn)) p (resTmps fn) b fun
      | .exit _, _ => M.fail
      | _, env => resM P fn env
    | none => ([], .skip, fun _ _ => M.fail)
  | none => ([], .skip, fun _ _ => M.fail)
noncomputable def ctxOf (f : FuncId) : Ctx :=
  match P.funcs[f]? with
  | some fn => ctxW P X none (protOf fn) (resM P fn)
  | none => ctxW P X none [] (fun _ => M.fail)
/-- To go on from a place. -/
noncomputable def atP (f : FuncId) (p : List Nat) (env : Env) : M PV :=
  loopW P X none (ctxOf P X f).prot (ctxOf P X f).res (kOf P X f p).1 (kOf P X f p).2.1 env (kOf P X f p).2.2
/-- The same, one round of a loop unrolled. -/
noncomputable def stepP (f : FuncId) (p : List Nat) (env : Env) : M PV :=
  go1 (ctxW P X none (ctxOf P X f).prot (ctxOf P X f).res) (loopW P X none (ctxOf P X f).prot (ctxOf P X f).res) (kOf P X f p).1 (kOf P X f p).2.1 env (kOf P X f p).2.2
theorem atP_step (f : FuncId) (p : List Nat) (env : Env) : atP P X f p env = stepP P X f p env := loopW_eq P X none _ _ _ _ _ _
/-- An environment, told by what is in it. -/
def mkEnv : Nat → Nat → List (Nat × PV) → Env
  | 0, _, _ => []
  | n + 1, i, (j, v) :: r => bif i == j then v :: mkEnv n (i + 1) r else .undef :: mkEnv n (i + 1) ((j, v) :: r)
  | n + 1, i, [] => .undef :: mkEnv n (i + 1) []
end
end Go.Proofs.Ytofbbijagbpicaa.Pi
/- Single operations on known data, for simp. -/
namespace Go.Proofs.Ytofbbijagbpicaa.Pi
set_option linter.unusedVariables false
set_option linter.unusedSimpArgs false
theorem nrfl {γ : Sort _} {a b : γ} (h : a = b) : a = b := h
variable {α β : Type} {H : Heap} {k : IntKind} {a b n m : Int} {x y : PV} {ek : EqK}
theorem bind_pure (v : α) (f : α → M β) : M.bind (M.pure v) f = f v := nrfl rfl
theorem bind_pan (v : PV) (f : α → M β) : M.bind (M.pan v) f = M.pan v := nrfl rfl
theorem pure_run (v : α) : M.pure v H = some (.ok v H) := nrfl rfl
theorem pan_run (v : PV) : (M.pan v : M α) H = some (.pan v H) := nrfl rfl
theorem bind_ok {m : M α} {f : α → M β} {v : α} {H' : Heap} (h : m H = some (.ok v H')) : M.bind m f H = f v H' := by unfold M.bind; rw [h]
theorem bind_panOf {m : M α} {f : α → M β} {v : PV} {H' : Heap} (h : m H = some (.pan v H')) : M.bind m f H = some (.pan v H') := by unfold M.bind; rw [h]
theorem nb_ok {m : M α} {f : α → M β} {v : α} (h : m H = some (.ok v H)) : nb m f H = f v H := by simp [nb, h]
theorem nb_pure' (v : α) (f : α → M β) : nb (M.pure v) f = f v := nb_pure v f
theorem guard_true (m : M α) : guardM true m = m := nrfl rfl
@[simp] theorem strip_int : strip (.int k n) = .int k n := nrfl rfl
@[simp] theorem strip_bool {t : Bool} : strip (.bool t) = .bool t := nrfl rfl
@[simp] theorem strip_str {s : ByteArray} : strip (.str s) = .str s := nrfl rfl
@[simp] theorem strip_slice {o z : Bool} {sz : Nat} {xs : List PV} : strip (.slice o z sz xs) = .slice false z sz xs := nrfl rfl
@[simp] theorem strip_ptr {i o : Nat} : strip (.ptr i o) = .ptr i o := nrfl rfl
@[simp] theorem strip_agg {cs : List PV} : strip (.agg cs) = .agg cs := nrfl rfl
@[simp] theorem strip_elem {cs : List PV} : strip (.elem cs) = .elem cs := nrfl rfl
@[simp] theorem strip_nil : strip .nil = .nil := nrfl rfl
@[simp] theorem strip_niliface : strip .niliface = .niliface := nrfl rfl
@[simp] theorem strip_iface {t : TypeId} {v : PV} : strip (.iface t v) = .iface t v := nrfl rfl
@[simp] theorem strip_fn {f : FuncId} {u v : List PV} : strip (.fn f u v) = .fn f u v := nrfl rfl
@[simp] theorem strip_undef : strip .undef = .undef := nrfl rfl
@[simp] theorem strip_tup {vs : List PV} : strip (.tup vs) = .tup (vs.map stripC) := nrfl rfl
@[simp] theorem stripC_int : stripC (.int k n) = .int k n := nrfl rfl
@[simp] theorem stripC_bool {t : Bool} : stripC (.bool t) = .bool t := nrfl rfl
@[simp] theorem stripC_str {s : ByteArray} : stripC (.str s) = .str s := nrfl rfl
@[simp] theorem stripC_slice {o z : Bool} {sz : Nat} {xs : List PV} : stripC (.slice o z sz xs) = .slice false z sz xs := nrfl rfl
@[simp] theorem stripC_ptr {i o : Nat} : stripC (.ptr i o) = .ptr i o := nrfl rfl
@[simp] theorem stripC_agg {cs : List PV} : stripC (.agg cs) = .agg cs := nrfl rfl
@[simp] theorem stripC_nil : stripC .nil = .nil := nrfl rfl
@[simp] theorem stripC_niliface : stripC .niliface = .niliface := nrfl rfl
@[simp] theorem stripC_iface {t : TypeId} {v : PV} : stripC (.iface t v) = .iface t v := nrfl rfl
@[simp] theorem stripC_fn {f : FuncId} {u v : List PV} : stripC (.fn f u v) = .fn f u v := nrfl rfl
theorem gd_bool {t w : Bool} {m : M PV} : gd (.bool t) w m = bif t == w then m else M.pure (.tup []) := nrfl rfl
theorem condM_bool {t : Bool} {m m' : M α} : condM (.bool t) m m' = bif t then m else m' := nrfl rfl
theorem pick_bool {t : Bool} : pick (.bool t) x y = M.pure (bif t then strip x else strip y) := nrfl rfl
@[simp] theorem bi_add : bi .add ek (.int k a) (.int k b) = M.pure (.int k (k.wrap (a + b))) := nrfl (by cases k <;> rfl)
@[simp] theorem bi_sub : bi .sub ek (.int k a) (.int k b) = M.pure (.int k (k.wrap (a - b))) := nrfl (by cases k <;> rfl)
@[simp] theorem bi_mul : bi .mul ek (.int k a) (.int k b) = M.pure (.int k (k.wrap (a * b))) := nrfl (by cases k <;> rfl)
@[simp] theorem bi_eql : bi .eql ek (.int k a) (.int k b) = M.pure (.bool (a == b)) := nrfl (by cases k <;> rfl)
@[simp] theorem bi_neq : bi .neq ek (.int k a) (.int k b) = M.pure (.bool (a != b)) := nrfl (by cases k <;> rfl)
@[simp] theorem bi_lss : bi .lss ek (.int k a) (.int k b) = M.pure (.bool (decide (a < b))) := nrfl (by cases k <;> rfl)
@[simp] theorem bi_leq : bi .leq ek (.int k a) (.int k b) = M.pure (.bool (decide (a ≤ b))) := nrfl (by cases k <;> rfl)
@[simp] theorem bi_gtr : bi .gtr ek (.int k a) (.int k b) = M.pure (.bool (decide (a > b))) := nrfl (by cases k <;> rfl)
@[simp] theorem bi_geq : bi .geq ek (.int k a) (.int k b) = M.pure (.bool (decide (a ≥ b))) := nrfl (by cases k <;> rfl)
@[simp] theorem bi_seql {s t : ByteArray} : bi .eql ek (.str s) (.str t) = M.pure (.bool (s.toList == t.toList)) := nrfl rfl
@[simp] theorem bi_sneq {s t : ByteArray} : bi .neq ek (.str s) (.str t) = M.pure (.bool (!(s.toList == t.toList))) := nrfl rfl
@[simp] theorem bi_beql {s t : Bool} : bi .eql .bool (.bool s) (.bool t) = M.pure (.bool (s == t)) := nrfl rfl
@[simp] theorem bi_bneq {s t : Bool} : bi .neq .bool (.bool s) (.bool t) = M.pure (.bool (!(s == t))) := nrfl rfl
@[simp] theorem un_not {t : Bool} : un .not (.bool t) = M.pure (.bool (!t)) := nrfl rfl
@[simp] theorem lnL_slice {o z : Bool} {sz : Nat} {xs : List PV} : lnL (.slice o z sz xs) = M.pure (.int .i64 xs.length) := nrfl rfl
@[simp] theorem lnS_str {s : ByteArray} : lnS (.str s) = M.pure (.int .i64 s.size) := nrfl rfl
@[simp] theorem mx_int : mx (.int k a) (.int k b) = M.pure (.int k (if b > a then b else a)) := nrfl (by cases k <;> rfl)
@[simp] theorem mn_int : mn (.int k a) (.int k b) = M.pure (.int k (if b < a then b else a)) := nrfl (by cases k <;> rfl)
@[simp] theorem cv_int {o : Bool} {j : IntKind} : cv (.int k) o (.int j n) = M.pure (.int k (k.wrap n)) := nrfl rfl
@[simp] theorem ex_tup0 {v : PV} {r : List PV} : ex 0 (.tup (v :: r)) = M.pure v := nrfl rfl
@[simp] theorem ex_tup1 {u v : PV} {r : List PV} : ex 1 (.tup (u :: v :: r)) = M.pure v := nrfl rfl
@[simp] theorem ex_tup2 {t u v : PV} {r : List PV} : ex 2 (.tup (t :: u :: v :: r)) = M.pure v := nrfl rfl
theorem trunc_ok' {m : M PV} {v : PV} {H' : Heap} (h : m H = some (.ok v H')) (hl : v.low H.length = true) (ht : H'.take H.length = H) : trunc m H = some (.ok v H) := by
  unfold trunc
  rw [h]
  simp [hl, ht]
theorem trunc_pan' {m : M PV} {v : PV} {H' : Heap} (h : m H = some (.pan v H')) (hl : v.low H.length = true) (ht : H'.take H.length = H) : trunc m H = some (.pan v H) := by
  unfold trunc
  rw [h]
  simp [hl, ht]
/-- A body that leaves the heap as it was. -/
theorem trunc_same {m : M PV} {v : PV} (h : m H = some (.ok v H)) : trunc m H = some (.ok v H) := by
  unfold trunc
  rw [h]
  cases v.low H.length <;> simp
theorem take_app (B : Heap) : (H ++ B).take H.length = H := by simp
end Go.Proofs.Ytofbbijagbpicaa.Pi
/- A law's function, told true. -/
namespace Go.Proofs.Ytofbbijagbpicaa.Pi
set_option linter.unusedVariables false
set_option linter.unusedSimpArgs false
variable {P : Program} {X : ExtT}
/-- Only cells that stay as they are. -/
def gOf (im : Nat → Nat → Option Value) : G := ⟨[], im, fun _ => none⟩
theorem inv_gOf {im : Nat → Nat → Option Value} {w : World} (him : ∀ b o v, im b o = some v → w.cell? ⟨b, o, none⟩ = some v) : Inv (gOf im) [] w :=
  ⟨rfl, fun i j b h => by simp [gOf] at h, him, fun b L s h => by simp [gOf] at h, fun id b y h => by simp [gOf] at h⟩
theorem walk_law (hX : XSound P X) {f : FuncId} {args : List PV} {H' : Heap} (h : callW P X f args [] = some (.ok (.bool true) H')) {im : Nat → Nat → Option Value} {w : World} {cargs : Array Value}
    (him : ∀ b o v, im b o = some v → w.cell? ⟨b, o, none⟩ = some v) (ha : ArgsOk (gOf im) args cargs) : Calls P f cargs w fun e w' => e = .returned (.bool true) ∧ RowKit.Below w.heap.size w w' := by
  obtain ⟨_, hs⟩ := callW_sound hX f args [] _ h
  refine (hs (gOf im) w cargs (inv_gOf him) ha).mono ?_
  rintro e w' ⟨g', hgl, hgr, cv, rfl, hi, hr⟩
  have hv : cv = .bool true := by
    cases hr with
    | one hr => cases hr with
      | pure hr => cases hr with
        | flat hr => cases hr; rfl
  subst hv
  exact ⟨rfl, hgl.os, hgl.tape, hgl.output, hgl.size, fun k hk => (hgl.old k hk rfl (by simp [gOf])).2.2⟩
end Go.Proofs.Ytofbbijagbpicaa.Pi
/- Told code, run by simp: each operation on known data comes to an answer and a heap. -/
namespace Go.Proofs.Ytofbbijagbpicaa.Pi
set_option linter.unusedVariables false
set_option linter.unusedSimpArgs false
variable {α β : Type} {H : Heap} {k j : IntKind} {a b n m : Int} {x y : PV} {ek : EqK}
def resT (v : PV) (m : M PV) : M PV := bif isTup v then M.fail else m
def hget (H : Heap) (id : Nat) : Option Box := H[id]?
def hset (H : Heap) (id : Nat) (b : Box) : Heap := H.set id b
def hadd (H : Heap) (L : List Box) : Heap := H ++ L
def hcut (H : Heap) (n : Nat) : Heap := H.take n
abbrev hlen (H : Heap) : Nat := List.length H
/-- Code, run. -/
def run (m : M α) (H : Heap) : Option (Out α) := m H
/-- On from an answer. -/
def bindR (r : Option (Out α)) (f : α → M β) : Option (Out β) :=
  match r with
  | none => none
  | some (.ok v H) => run (f v) H
  | some (.pan v H) => some (.pan v H)
def truncR (H : Heap) (r : Option (Out PV)) : Option (Out PV) :=
  match r with
  | none => none
  | some (.ok v H') => some (.ok v (bif v.low H.length then hcut H' H.length else H'))
  | some (.pan v H') => bif v.low H.length then some (.pan v (hcut H' H.length)) else none
noncomputable def nbR (H : Heap) (r : Option (Out α)) (f : α → M β) : Option (Out β) := nb (fun _ => r) f H
@[congr] theorem bindR_congr {r r' : Option (Out α)} {f : α → M β} (h : r = r') : bindR r f = bindR r' f := by rw [h]
@[congr] theorem nbR_congr {r r' : Option (Out α)} {f : α → M β} (h : r = r') : nbR H r f = nbR H r' f := by rw [h]
@[congr] theorem condM_congr {c c' : PV} {x y : M α} (h : c = c') : condM c x y = condM c' x y := by rw [h]
@[congr] theorem guardM_congr {c c' : Bool} {x : M α} (h : c = c') : guardM c x = guardM c' x := by rw [h]
@[congr] theorem resT_congr {c c' : PV} {x : M PV} (h : c = c') : resT c x = resT c' x := by rw [h]
theorem run_bind {m : M α} {f : α → M β} : run (M.bind m f) H = bindR (run m H) f := nrfl rfl
theorem bindR_ok {f : α → M β} {v : α} {H : Heap} : bindR (some (.ok v H)) f = run (f v) H := nrfl rfl
theorem bindR_none {f : α → M β} : bindR none f = none := nrfl rfl
theorem bindR_pan {f : α → M β} {v : PV} {H : Heap} : bindR (some (.pan v H)) f = some (.pan v H) := nrfl rfl
theorem bindR_ite {c : Prop} [Decidable c] {r r' : Option (Out α)} {f : α → M β} : bindR (if c then r else r') f = if c then bindR r f else bindR r' f := by split <;> rfl
theorem run_nb {m : M α} {f : α → M β} : run (nb m f) H = nbR H (run m H) f := nrfl rfl
theorem nbR_ok {f : α → M β} {v : α} : nbR H (some (.ok v H)) f = run (f v) H := by simp [nbR, nb, run]
theorem nbR_ite {c : Prop} [Decidable c] {r r' : Option (Out α)} {f : α → M β} : nbR H (if c then r else r') f = if c then nbR H r f else nbR H r' f := by split <;> rfl
theorem run_trunc {m : M PV} : run (trunc m) H = truncR H (run m H) := nrfl rfl
theorem truncR_ite {c : Prop} [Decidable c] {r r' : Option (Out PV)} : truncR H (if c then r else r') = if c then truncR H r else truncR H r' := by split <;> rfl
theorem truncR_none : truncR H none = none := nrfl rfl
theorem truncR_ok {v : PV} {H' : Heap} : truncR H (some (.ok v H')) = some (.ok v (if v.low H.length = true then hcut H' H.length else H')) := by
  show some (Out.ok v (bif v.low H.length then hcut H' H.length else H')) = _
  cases v.low H.length <;> rfl
theorem truncR_pan {v : PV} {H' : Heap} : truncR H (some (.pan v H')) = if v.low H.length = true then some (.pan v (hcut H' H.length)) else none := by
  show (bif v.low H.length then some (Out.pan v (hcut H' H.length)) else none) = _
  cases v.low H.length <;> rfl
theorem run_guard {c : Bool} {m : M α} : run (guardM c m) H = if c = true then run m H else none := by cases c <;> rfl
theorem run_resT {v : PV} {m : M PV} : run (resT v m) H = if isTup v = true then none else run m H := by unfold resT; cases isTup v <;> rfl
theorem run_cond {c : Bool} {x y : M α} : run (condM (.bool c) x y) H = if c = true then run x H else run y H := by cases c <;> rfl
theorem run_gdT {c : Bool} {m : M PV} : run (gd (.bool c) true m) H = if c = true then run m H else some (.ok (.tup []) H) := by cases c <;> rfl
theorem run_gdF {c : Bool} {m : M PV} : run (gd (.bool c) false m) H = if c = true then some (.ok (.tup []) H) else run m H := by cases c <;> rfl
theorem strip_skip : strip (.tup []) = .tup [] := nrfl rfl
theorem run_gdS {b : Bool} {m : M PV} : run (gd (.tup []) b m) H = some (.ok (.tup []) H) := nrfl rfl
theorem run_pick {c : Bool} : run (pick (.bool c) x y) H = if c = true then some (.ok (strip x) H) else some (.ok (strip y) H) := by cases c <;> rfl
theorem run_pure {v : α} : run (M.pure v) H = some (.ok v H) := nrfl rfl
theorem run_pan {v : PV} : run (M.pan v : M α) H = some (.pan v H) := nrfl rfl
theorem run_fail : run (M.fail : M α) H = none := nrfl rfl
/-! ### Memory -/
theorem run_al {cs : List PV} : run (al cs) H = if cs.all isCell = true then some (.ok (.ptr H.length 0) (hadd H [.cells cs])) else none := by unfold run al; cases cs.all isCell <;> rfl
theorem run_bx {n : Nat} {v : PV} : run (bx n v) H = if (v.cells.map stripC).length = n ∧ lowL (H.length + 1) (v.cells.map stripC) = true ∧ v.cells.all isCell = true then some (.ok (.ptr H.length 0) (hadd H [.cells (v.cells.map stripC)])) else none := by
  unfold run bx
  cases h1 : ((v.cells.map stripC).length == n) <;> cases h2 : lowL (H.length + 1) (v.cells.map stripC) <;> cases h3 : v.cells.all isCell <;> simp_all [hadd]
theorem beq_eq_decide' (a b : Nat) : (a == b) = decide (a = b) := by rw [Bool.eq_iff_iff]; simp
def ldB (n : Option Nat) (mv : Bool) (id o : Nat) (H : Heap) : Option Box → Option (Out PV)
  | some (.cells cs) => match n with
      | none => match cs[o]? with
        | some v => bif mv then some (.ok v (hset H id (.cells (cs.set o (stripC v))))) else some (.ok (stripC v) H)
        | none => none
      | some n => bif decide (o + n ≤ cs.length) then some (.ok (.agg (((cs.drop o).take n).map stripC)) H) else none
  | _ => none
theorem run_ld {n : Option Nat} {mv : Bool} {id o : Nat} : run (ld n mv (.ptr id o)) H = ldB n mv id o H (hget H id) := by
  unfold run ld ldB
  rfl
def stB (n : Nat) (mv : Bool) (id o : Nat) (v : PV) (H : Heap) : Option Box → Option (Out PV)
  | some (.cells cs) => bif v.cells.length == n && (decide (o + n ≤ cs.length) && (lowL (id + 1) v.cells && v.cells.all isCell)) then
        some (.ok .undef (hset H id (.cells (fillAt o (bif mv then v.cells else v.cells.map stripC) cs))))
      else none
  | _ => none
theorem run_st {n : Nat} {mv : Bool} {id o : Nat} {v : PV} : run (st n mv (.ptr id o) v) H = stB n mv id o v H (hget H id) := by
  unfold run st stB
  rfl
theorem ldB_some {n : Nat} {mv : Bool} {id o : Nat} {cs : List PV} : ldB (some n) mv id o H (some (.cells cs)) = if o + n ≤ cs.length then some (.ok (.agg (((cs.drop o).take n).map stripC)) H) else none := by
  show (bif decide (o + n ≤ cs.length) then some (Out.ok (PV.agg (((cs.drop o).take n).map stripC)) H) else none) = _
  by_cases h : o + n ≤ cs.length <;> simp [h]
def nth : List α → Nat → Option α
  | [], _ => none
  | v :: _, 0 => some v
  | _ :: r, n + 1 => nth r n
theorem nth_zero {v : α} {r : List α} : nth (v :: r) 0 = some v := nrfl rfl
theorem nth_succ {v : α} {r : List α} {n : Nat} : nth (v :: r) (n + 1) = nth r n := nrfl rfl
theorem nth_is : ∀ (l : List α) (n : Nat), l[n]? = nth l n
  | [], _ => rfl
  | _ :: _, 0 => rfl
  | _ :: r, n + 1 => nth_is r n
def ldTR (H : Heap) (id : Nat) (cs : List PV) (o : Nat) : Option PV → Option (Out PV)
  | some v => some (.ok v (hset H id (.cells (cs.set o (stripC v)))))
  | none => none
def ldFR (H : Heap) : Option PV → Option (Out PV)
  | some v => some (.ok (stripC v) H)
  | none => none
theorem ldTR_some {id : Nat} {cs : List PV} {o : Nat} {v : PV} : ldTR H id cs o (some v) = some (.ok v (hset H id (.cells (cs.set o (stripC v))))) := nrfl rfl
theorem ldFR_some {v : PV} : ldFR H (some v) = some (.ok (stripC v) H) := nrfl rfl
theorem ldB_t {id o : Nat} {cs : List PV} : ldB none true id o H (some (.cells cs)) = ldTR H id cs o (nth cs o) := by
  rw [← nth_is]; rfl
theorem ldB_f {id o : Nat} {cs : List PV} : ldB none false id o H (some (.cells cs)) = ldFR H (nth cs o) := by
  rw [← nth_is]; rfl
theorem stB_is {n : Nat} {mv : Bool} {id o : Nat} {v : PV} {cs : List PV} :
    stB n mv id o v H (some (.cells cs)) = if v.cells.length = n ∧ o + n ≤ cs.length ∧ lowL (id + 1) v.cells = true ∧ v.cells.all isCell = true then some (.ok .undef (hset H id (.cells (fillAt o (if mv = true then v.cells else v.cells.map stripC) cs)))) else none := by
  show (bif v.cells.length == n && (decide (o + n ≤ cs.length) && (lowL (id + 1) v.cells && v.cells.all isCell)) then some (Out.ok PV.undef (hset H id (.cells (fillAt o (bif mv then v.cells else v.cells.map stripC) cs)))) else none) = _
  cases hb : v.cells.all isCell <;> cases hc : lowL (id + 1) v.cells <;> by_cases h1 : v.cells.length = n <;> by_cases h2 : o + n ≤ cs.length <;> cases mv <;> simp [h1, h2, beq_eq_decide' (v.cells.length) n]
theorem run_ldE0 {mv : Bool} {cs : List PV} {c : PV} : run (ld none mv (.elem (c :: cs))) H = some (.ok c H) := nrfl rfl
theorem run_ldEn {mv : Bool} {n : Nat} {cs : List PV} : run (ld (some n) mv (.elem cs)) H = if n ≤ cs.length then some (.ok (.agg (cs.take n)) H) else none := by
  show (bif decide (n ≤ cs.length) then M.pure (PV.agg (cs.take n)) else M.fail) H = _
  by_cases h : n ≤ cs.length <;> simp [h, M.pure, M.fail]
theorem get_loc {L : List Box} (k : Nat) : hget (hadd H L) (H.length + k) = nth L k := by unfold hget hadd; rw [List.getElem?_append_right (Nat.le_add_right _ _), Nat.add_sub_cancel_left, nth_is]
theorem get_loc0 {L : List Box} : hget (hadd H L) H.length = nth L 0 := get_loc 0
theorem get_old {L : List Box} {i : Nat} (h : i < H.length) : hget (hadd H L) i = hget H i := List.getElem?_append_left h
theorem set_loc {L : List Box} {x : Box} (k : Nat) : hset (hadd H L) (H.length + k) x = hadd H (L.set k x) := by unfold hset hadd; rw [List.set_append_right _ _ (Nat.le_add_right _ _), Nat.add_sub_cancel_left]
theorem set_loc0 {L : List Box} {x : Box} : hset (hadd H L) H.length x = hadd H (L.set 0 x) := set_loc 0
theorem set_old {L : List Box} {i : Nat} {x : Box} (h : i < H.length) : hset (hadd H L) i x = hadd (hset H i x) L := List.set_append_left _ _ h
theorem get_set {i : Nat} {x : Box} (h : i < H.length) : hget (hset H i x) i = some x := by unfold hget hset; rw [List.getElem?_set_self h]
theorem get_set_ne {i k : Nat} {x : Box} (h : i ≠ k) : hget (hset H i x) k = hget H k := List.getElem?_set_ne h
theorem set_set {i : Nat} {x y : Box} : hset (hset H i x) i y = hset H i y := List.set_set _
theorem add_add {L K : List Box} : hadd (hadd H L) K = hadd H (L ++ K) := List.append_assoc _ _ _
theorem cut_add {A L : List Box} {n : Nat} (h : n = A.length) : hcut (hadd A L) n = A := by subst h; simp [hcut, hadd]
theorem cut_all {A : List Box} {n : Nat} (h : n = A.length) : hcut A n = A := by subst h; simp [hcut]
theorem cut0 : hcut H H.length = H := cut_all rfl
theorem cut1 {i : Nat} {x : Box} : hcut (hset H i x) H.length = hset H i x := cut_all (by unfold hset; simp)
theorem cut2 {i j : Nat} {x y : Box} : hcut (hset (hset H i x) j y) H.length = hset (hset H i x) j y := cut_all (by unfold hset; simp)
theorem cutA0 {L : List Box} : hcut (hadd H L) H.length = H := cut_add rfl
theorem cutA1 {L : List Box} {i : Nat} {x : Box} : hcut (hadd (hset H i x) L) H.length = hset H i x := cut_add (by unfold hset; simp)
theorem cutA2 {L : List Box} {i j : Nat} {x y : Box} : hcut (hadd (hset (hset H i x) j y) L) H.length = hset (hset H i x) j y := cut_add (by unfold hset; simp)
theorem len_add {L : List Box} : List.length (hadd H L) = H.length + L.length := List.length_append
theorem len_set {i : Nat} {x : Box} : List.length (hset H i x) = H.length := List.length_set
theorem get_loc1 {L : List Box} {i : Nat} {y : Box} (k : Nat) : hget (hadd (hset H i y) L) (H.length + k) = nth L k := by
  have := get_loc (H := hset H i y) (L := L) k
  rwa [len_set] at this
theorem get_loc01 {L : List Box} {i : Nat} {y : Box} : hget (hadd (hset H i y) L) H.length = nth L 0 := get_loc1 0
theorem set_loc1 {L : List Box} {i : Nat} {x y : Box} (k : Nat) : hset (hadd (hset H i y) L) (H.length + k) x = hadd (hset H i y) (L.set k x) := by
  have := set_loc (H := hset H i y) (L := L) (x := x) k
  rwa [len_set] at this
theorem set_loc01 {L : List Box} {i : Nat} {x y : Box} : hset (hadd (hset H i y) L) H.length x = hadd (hset H i y) (L.set 0 x) := set_loc1 0
theorem get_old1 {L : List Box} {i j : Nat} {y : Box} (h : i < H.length) : hget (hadd (hset H j y) L) i = hget (hset H j y) i := get_old (by rw [len_set]; exact h)
theorem set_old1 {L : List Box} {i j : Nat} {x y : Box} (h : i < H.length) : hset (hadd (hset H j y) L) i x = hadd (hset (hset H j y) i x) L := set_old (by rw [len_set]; exact h)
theorem get_lt {i : Nat} {x : Box} (h : hget H i = some x) : i < H.length := (List.getElem?_eq_some_iff.mp h).1
theorem set_self {i : Nat} {x : Box} (h : hget H i = some x) : hset H i x = H := by
  obtain ⟨h1, h2⟩ := List.getElem?_eq_some_iff.mp h
  unfold hset; subst h2; exact List.set_getElem_self h1
/-! ### Numbers -/
theorem w_i64 (h : -9223372036854775808 ≤ n ∧ n ≤ 9223372036854775807) : IntKind.i64.wrap n = n := by rw [IntKind.wrap_i64]; omega
theorem w_u64 (h : 0 ≤ n ∧ n ≤ 18446744073709551615) : IntKind.u64.wrap n = n := by simp only [IntKind.wrap, IntKind.signed, IntKind.bits]; simp; omega
theorem w_u8 (h : 0 ≤ n ∧ n ≤ 255) : IntKind.u8.wrap n = n := by rw [IntKind.wrap_u8]; omega
theorem w_u32 (h : 0 ≤ n ∧ n ≤ 4294967295) : IntKind.u32.wrap n = n := by rw [IntKind.wrap_u32]; omega
theorem w_i32 (h : -2147483648 ≤ n ∧ n ≤ 2147483647) : IntKind.i32.wrap n = n := by rw [IntKind.wrap_i32]; omega
theorem run_shl (h : 0 ≤ b) : bi .shl ek (.int k a) (.int j b) = M.pure (.int k (k.wrap (a * 2 ^ shiftN k b))) := by
  have : ¬ b < 0 := by omega
  simp [bi, this]
theorem run_shr (h : 0 ≤ b) : bi .shr ek (.int k a) (.int j b) = M.pure (.int k (a.fdiv (2 ^ shiftN k b))) := by
  have : ¬ b < 0 := by omega
  simp [bi, this]
theorem run_quo (h : b ≠ 0) : bi .quo ek (.int k a) (.int k b) = M.pure (.int k (k.wrap (a.tdiv b))) := by
  have h' : (b == 0) = false := by simpa using h
  cases k <;> simp [bi, intOp, h']
theorem run_rem (h : b ≠ 0) : bi .rem ek (.int k a) (.int k b) = M.pure (.int k (a.tmod b)) := by
  have h' : (b == 0) = false := by simpa using h
  cases k <;> simp [bi, intOp, h']
theorem run_and : bi .and ek (.int k a) (.int k b) = M.pure (.int k (k.wrap (BitVec.ofInt k.bits a &&& BitVec.ofInt k.bits b).toNat)) := by cases k <;> rfl
theorem run_or : bi .or ek (.int k a) (.int k b) = M.pure (.int k (k.wrap (BitVec.ofInt k.bits a ||| BitVec.ofInt k.bits b).toNat)) := by cases k <;> rfl
theorem run_xor : bi .xor ek (.int k a) (.int k b) = M.pure (.int k (k.wrap (BitVec.ofInt k.bits a ^^^ BitVec.ofInt k.bits b).toNat)) := by cases k <;> rfl
def iaR (H : Heap) : Option PV → Option (Out PV)
  | some x => some (.ok (.elem x.cells) H)
  | none => none
theorem iaR_some {x : PV} : iaR H (some x) = some (.ok (.elem x.cells) H) := nrfl rfl
theorem run_iaS {o z : Bool} {sz : Nat} {xs : List PV} (h0 : 0 ≤ n) : run (iaS sz (.slice o z sz xs) (.int k n)) H = iaR H xs[n.toNat]? := by
  unfold iaS iaR run
  have h' : decide (0 ≤ n) = true := by simpa using h0
  simp only [h', beq_self_eq_true, Bool.and_self, cond_true, rtPanic, M.fail, M.pure]
  split <;> rename_i h <;> simp only [h] <;> rfl
theorem run_fa {off id o : Nat} : fa off (.ptr id o) = M.pure (.ptr id (o + off)) := nrfl rfl
theorem run_faE {off : Nat} {cs : List PV} : fa off (.elem cs) = M.pure (.elem (cs.drop off)) := nrfl rfl
theorem callV_fn {P : Program} {C : CallT} {f : FuncId} {u v args : List PV} : callV P C (.fn f u v) args = C f (u ++ args ++ v) := nrfl rfl
theorem nc_ptr {P : Program} {i o : Nat} : nc P (.ptr i o) = M.pure (.ptr i o) := nrfl rfl
theorem nc_elem {P : Program} {cs : List PV} : nc P (.elem cs) = M.pure (.elem cs) := nrfl rfl
theorem nc_nil {P : Program} : nc P .nil = M.pan (nilDeref P) := nrfl rfl
theorem run_mi {t : TypeId} {v : PV} : run (mi t v) H = if isVal v = true then some (.ok (.iface t (stripC v)) H) else none := by
  unfold run mi
  cases isVal v <;> rfl
theorem run_pn {t : TypeId} {v : PV} : pn (.iface t v) = M.pan (.iface t v) := nrfl rfl
theorem run_cvI {o : Bool} : cv (.int k) o (.int j n) = M.pure (.int k (k.wrap n)) := nrfl rfl
theorem run_ex0 {v : PV} {r : List PV} : ex 0 (.tup (v :: r)) = M.pure v := nrfl rfl
theorem run_ex1 {u v : PV} {r : List PV} : ex 1 (.tup (u :: v :: r)) = M.pure v := nrfl rfl
theorem run_ex2 {u v x : PV} {r : List PV} : ex 2 (.tup (u :: v :: x :: r)) = M.pure x := nrfl rfl
theorem tupDrop0 {v : PV} {r : List PV} : tupDrop 0 (.tup (v :: r)) = .tup (stripC v :: r) := nrfl rfl
theorem tupDrop1 {u v : PV} {r : List PV} : tupDrop 1 (.tup (u :: v :: r)) = .tup (u :: stripC v :: r) := nrfl rfl
theorem tupDrop2 {u v x : PV} {r : List PV} : tupDrop 2 (.tup (u :: v :: x :: r)) = .tup (u :: v :: stripC x :: r) := nrfl rfl
section
variable {c d : Bool} {s : ByteArray} {i o : Nat} {cs ds : List PV} {N : Nat}
theorem isTup_int : isTup (.int k n) = false := nrfl rfl
theorem isCell_int : isCell (.int k n) = true := nrfl rfl
theorem isVal_int : isVal (.int k n) = true := nrfl rfl
theorem isPtr_int : isPtr (.int k n) = false := nrfl rfl
theorem cells_int : PV.cells (.int k n) = [(.int k n)] := nrfl rfl
theorem low_int : PV.low N (.int k n) = true := by simp only [PV.low]
theorem isTup_bool : isTup (.bool c) = false := nrfl rfl
theorem isCell_bool : isCell (.bool c) = true := nrfl rfl
theorem isVal_bool : isVal (.bool c) = true := nrfl rfl
theorem isPtr_bool : isPtr (.bool c) = false := nrfl rfl
theorem cells_bool : PV.cells (.bool c) = [(.bool c)] := nrfl rfl
theorem low_bool : PV.low N (.bool c) = true := by simp only [PV.low]
theorem isTup_str : isTup (.str s) = false := nrfl rfl
theorem isCell_str : isCell (.str s) = true := nrfl rfl
theorem isVal_str : isVal (.str s) = true := nrfl rfl
theorem isPtr_str : isPtr (.str s) = false := nrfl rfl
theorem cells_str : PV.cells (.str s) = [(.str s)] := nrfl rfl
theorem low_str : PV.low N (.str s) = true := by simp only [PV.low]
theorem isTup_nil : isTup .nil = false := nrfl rfl
theorem isCell_nil : isCell .nil = true := nrfl rfl
theorem isVal_nil : isVal .nil = true := nrfl rfl
theorem isPtr_nil : isPtr .nil = false := nrfl rfl
theorem cells_nil : PV.cells .nil = [.nil] := nrfl rfl
theorem low_nil : PV.low N .nil = true := by simp only [PV.low]
theorem isTup_ptr : isTup (.ptr i o) = false := nrfl rfl
theorem isCell_ptr : isCell (.ptr i o) = true := nrfl rfl
theorem isVal_ptr : isVal (.ptr i o) = true := nrfl rfl
theorem isPtr_ptr : isPtr (.ptr i o) = true := nrfl rfl
theorem cells_ptr : PV.cells (.ptr i o) = [(.ptr i o)] := nrfl rfl
theorem low_ptr : PV.low N (.ptr i o) = decide (i < N) := by simp only [PV.low]
theorem isTup_elem : isTup (.elem cs) = false := nrfl rfl
theorem isCell_elem : isCell (.elem cs) = true := nrfl rfl
theorem isVal_elem : isVal (.elem cs) = true := nrfl rfl
theorem isPtr_elem : isPtr (.elem cs) = false := nrfl rfl
theorem cells_elem : PV.cells (.elem cs) = [(.elem cs)] := nrfl rfl
theorem low_elem : PV.low N (.elem cs) = true := by simp only [PV.low]
theorem isTup_slice : isTup (.slice c d i cs) = false := nrfl rfl
theorem isCell_slice : isCell (.slice c d i cs) = true := nrfl rfl
theorem isVal_slice : isVal (.slice c d i cs) = true := nrfl rfl
theorem isPtr_slice : isPtr (.slice c d i cs) = false := nrfl rfl
theorem cells_slice : PV.cells (.slice c d i cs) = [(.slice c d i cs)] := nrfl rfl
theorem low_slice : PV.low N (.slice c d i cs) = true := by simp only [PV.low]
theorem isTup_fn : isTup (.fn i cs ds) = false := nrfl rfl
theorem isCell_fn : isCell (.fn i cs ds) = true := nrfl rfl
theorem isVal_fn : isVal (.fn i cs ds) = true := nrfl rfl
theorem isPtr_fn : isPtr (.fn i cs ds) = false := nrfl rfl
theorem cells_fn : PV.cells (.fn i cs ds) = [(.fn i cs ds)] := nrfl rfl
theorem low_fn : PV.low N (.fn i cs ds) = (lowL N cs && lowL N ds) := by simp only [PV.low]
theorem isTup_nilfn : isTup .nilfn = false := nrfl rfl
theorem isCell_nilfn : isCell .nilfn = true := nrfl rfl
theorem isVal_nilfn : isVal .nilfn = true := nrfl rfl
theorem isPtr_nilfn : isPtr .nilfn = false := nrfl rfl
theorem cells_nilfn : PV.cells .nilfn = [.nilfn] := nrfl rfl
theorem low_nilfn : PV.low N .nilfn = true := by simp only [PV.low]
theorem isTup_iface : isTup (.iface i x) = false := nrfl rfl
theorem isCell_iface : isCell (.iface i x) = true := nrfl rfl
theorem isVal_iface : isVal (.iface i x) = true := nrfl rfl
theorem isPtr_iface : isPtr (.iface i x) = false := nrfl rfl
theorem cells_iface : PV.cells (.iface i x) = [(.iface i x)] := nrfl rfl
theorem low_iface : PV.low N (.iface i x) = x.low N := by simp only [PV.low]
theorem isTup_niliface : isTup .niliface = false := nrfl rfl
theorem isCell_niliface : isCell .niliface = true := nrfl rfl
theorem isVal_niliface : isVal .niliface = true := nrfl rfl
theorem isPtr_niliface : isPtr .niliface = false := nrfl rfl
theorem cells_niliface : PV.cells .niliface = [.niliface] := nrfl rfl
theorem low_niliface : PV.low N .niliface = true := by simp only [PV.low]
theorem isTup_agg : isTup (.agg cs) = false := nrfl rfl
theorem isCell_agg : isCell (.agg cs) = false := nrfl rfl
theorem isVal_agg : isVal (.agg cs) = true := nrfl rfl
theorem isPtr_agg : isPtr (.agg cs) = false := nrfl rfl
theorem cells_agg : PV.cells (.agg cs) = cs := nrfl rfl
theorem low_agg : PV.low N (.agg cs) = lowL N cs := by simp only [PV.low]
theorem isTup_tup : isTup (.tup cs) = true := nrfl rfl
theorem isCell_tup : isCell (.tup cs) = false := nrfl rfl
theorem isVal_tup : isVal (.tup cs) = false := nrfl rfl
theorem isPtr_tup : isPtr (.tup cs) = false := nrfl rfl
theorem cells_tup : PV.cells (.tup cs) = [(.tup cs)] := nrfl rfl
theorem low_tup : PV.low N (.tup cs) = lowL N cs := by simp only [PV.low]
theorem isTup_undef : isTup .undef = false := nrfl rfl
theorem isCell_undef : isCell .undef = false := nrfl rfl
theorem isVal_undef : isVal .undef = false := nrfl rfl
theorem isPtr_undef : isPtr .undef = false := nrfl rfl
theorem cells_undef : PV.cells .undef = [.undef] := nrfl rfl
theorem low_undef : PV.low N .undef = true := by simp only [PV.low]
end
theorem lowL_nil {n : Nat} : lowL n [] = true := by simp only [lowL]
theorem lowL_cons {n : Nat} {v : PV} {r : List PV} : lowL n (v :: r) = (v.low n && lowL n r) := by simp only [lowL]
def bdR (H : Heap) : Option (List PV) → Option (Out PV)
  | some cs => some (.ok (.agg cs) H)
  | none => none
theorem bdR_some {cs : List PV} : bdR H (some cs) = some (.ok (.agg cs) H) := nrfl rfl
theorem run_bd {zero : List PV} {parts : List (Nat × Nat × PV)} : run (bd zero parts) H = bdR H (fillAll parts zero) := by
  unfold run bd bdR
  cases fillAll parts zero <;> rfl
theorem fillAll_nil {cs : List PV} : fillAll [] cs = some cs := nrfl rfl
theorem fillAll_cons {off size : Nat} {v : PV} {r : List (Nat × Nat × PV)} {cs : List PV} : fillAll ((off, size, v) :: r) cs = if v.cells.length = size ∧ off + size ≤ cs.length ∧ v.cells.all isCell = true then fillAll r (fillAt off (v.cells.map stripC) cs) else none := by
  show (bif v.cells.length == size && (decide (off + size ≤ cs.length) && v.cells.all isCell) then fillAll r (fillAt off (v.cells.map stripC) cs) else none) = _
  cases hb : v.cells.all isCell <;> by_cases h1 : v.cells.length = size <;> by_cases h2 : off + size ≤ cs.length <;> simp [h1, h2, hb, beq_eq_decide' (v.cells.length) size]
theorem fillAt_is {off : Nat} {vs cs : List PV} : fillAt off vs cs = cs.take off ++ vs ++ cs.drop (off + vs.length) := nrfl rfl
def bsR (own : Bool) (a : Option Nat) (vs : List PV) (H : Heap) : Option (Out PV) := if vs.all (isFlatElem a) = true then some (.ok (.slice own false (a.getD 1) vs) H) else none
theorem run_bs {own : Bool} {a : Option Nat} {vs : List PV} : run (bs own a vs) H = bsR own a (vs.map stripC) H := by
  unfold run bs bsR
  cases ((vs.map stripC).all (isFlatElem a)) <;> rfl
/-! ### Order told or not -/
def noPanR : Option (Out PV) → Option (Out PV)
  | some (.ok v H) => some (.ok v H)
  | _ => none
theorem run_noPan {m : M PV} : run (noPan m) H = noPanR (run m H) := by
  unfold run noPan noPanR
  cases m H with
  | none => rfl
  | some q => cases q <;> rfl
theorem noPanR_ok {v : PV} {H : Heap} : noPanR (some (.ok v H)) = some (.ok v H) := nrfl rfl
theorem noPanR_pan {v : PV} {H : Heap} : noPanR (some (.pan v H)) = none := nrfl rfl
theorem noPanR_none : noPanR none = none := nrfl rfl
theorem noPanR_ite {c : Prop} [Decidable c] {r r' : Option (Out PV)} : noPanR (if c then r else r') = if c then noPanR r else noPanR r' := by split <;> rfl
noncomputable def chkR (r r' : Option (Out α)) (x : M β) (H : Heap) : Option (Out β) := run (chk (fun _ => r) (fun _ => r') x) H
@[congr] theorem chkR_congr {r r' s s' : Option (Out α)} {x : M β} (h : r = s) (h' : r' = s') : chkR r r' x H = chkR s s' x H := by rw [h, h']
theorem run_chk {m m' : M α} {x : M β} : run (chk m m' x) H = chkR (run m H) (run m' H) x H := nrfl rfl
theorem chkR_ok {a : α} {K : Heap} {x : M β} : chkR (some (.ok a K)) (some (.ok a K)) x H = run x H := by
  simp [chkR, run, chk]
theorem chkR_ok' {a b : α} {K K' : Heap} {x : M β} (h1 : a = b) (h2 : K = K') : chkR (some (.ok a K)) (some (.ok b K')) x H = run x H := by
  subst h1 h2; exact chkR_ok
theorem tld_ptr {i o : Nat} : tld (.ptr i o) = .ld i := nrfl rfl
theorem tst_ptr {i o : Nat} : tst (.ptr i o) = .st i := nrfl rfl
theorem tld_elem {cs : List PV} : tld (.elem cs) = .no := nrfl rfl
theorem clash_no {x : Touch} : clash .no x = false := nrfl rfl
theorem clash_no' {y : Touch} : clash y .no = false := by cases y <;> rfl
theorem clash_ld_ld {i j : Nat} : clash (.ld i) (.ld j) = false := nrfl rfl
theorem clash_ld_st {i j : Nat} : clash (.ld j) (.st i) = (i == j) := nrfl rfl
theorem clash_st_ld {i j : Nat} : clash (.st j) (.ld i) = (i == j) := nrfl rfl
theorem clash_st_st {i j : Nat} : clash (.st j) (.st i) = (i == j) := nrfl rfl
theorem clash_any_ld {i : Nat} : clash .any (.ld i) = false := nrfl rfl
theorem clash_ld_any {i : Nat} : clash (.ld i) .any = false := nrfl rfl
theorem clash_any_any : clash .any .any = false := nrfl rfl
/-- Behind a defer. -/
def defR (CD : Option PV → CallT) (f : FuncId) (args : List PV) (res : M PV) : Option (Out PV) → Option (Out PV)
  | none => none
  | some (.ok _ H) => bindR (run (CD none f args) H) (fun _ => res)
  | some (.pan v H) => bindR (run (CD (some v) f args) H) (fun r => match r with | .tup [] => res | _ => M.fail)
theorem run_defer {CD : Option PV → CallT} {f : FuncId} {u v args : List PV} {rest res : M PV} : run (deferM CD (.fn f u v) args rest res) H = defR CD f (u ++ args ++ v) res (run rest H) := by
  unfold run deferM defR
  dsimp only
  cases rest H with
  | none => rfl
  | some q => cases q <;> rfl
@[congr] theorem defR_congr {CD : Option PV → CallT} {f : FuncId} {args : List PV} {res : M PV} {r r' : Option (Out PV)} (h : r = r') : defR CD f args res r = defR CD f args res r' := by rw [h]
theorem defR_none {CD : Option PV → CallT} {f : FuncId} {args : List PV} {res : M PV} : defR CD f args res none = none := nrfl rfl
theorem defR_ok {CD : Option PV → CallT} {f : FuncId} {args : List PV} {res : M PV} {v : PV} : defR CD f args res (some (.ok v H)) = bindR (run (CD none f args) H) (fun _ => res) := nrfl rfl
theorem defR_pan {CD : Option PV → CallT} {f : FuncId} {args : List PV} {res : M PV} {v : PV} : defR CD f args res (some (.pan v H)) = bindR (run (CD (some v) f args) H) (fun r => match r with | .tup [] => res | _ => M.fail) := nrfl rfl
theorem defR_ite {CD : Option PV → CallT} {f : FuncId} {args : List PV} {res : M PV} {c : Prop} [Decidable c] {r r' : Option (Out PV)} : defR CD f args res (if c then r else r') = if c then defR CD f args res r else defR CD f args res r' := by split <;> rfl
end Go.Proofs.Ytofbbijagbpicaa.Pi
/- Bytes, and numbers of seven-bit digits: plain. -/
namespace Go.Proofs.Ytofbbijagbpicaa.Pi
set_option linter.unusedVariables false
set_option linter.unusedSimpArgs false
def byt (c : UInt8) : PV := .int .u8 c.toNat
abbrev bytes (b : List UInt8) : List PV := b.map byt
abbrev BS (z : Bool) (b : List UInt8) : PV := .slice false z 1 (bytes b)
theorem byt_get {b : List UInt8} {k : Nat} (h : k < b.length) : (bytes b)[k]? = some (byt b[k]) := by simp [bytes, h]
theorem byt_lt (c : UInt8) : c.toNat < 256 := c.toNat_lt
/-- Bits above and bits below. -/
theorem or_join (n s x : Nat) (hn : n < 2 ^ s) : n ||| (x * 2 ^ s) = n + x * 2 ^ s := by
  rw [Nat.or_comm, Nat.mul_comm, ← Nat.two_pow_add_eq_or_of_lt hn, Nat.add_comm]
theorem bv_or {w a b : Nat} (ha : a < 2 ^ w) (hb : b < 2 ^ w) : (BitVec.ofInt w (a : Int) ||| BitVec.ofInt w (b : Int)).toNat = a ||| b := by
  rw [BitVec.toNat_or, BitVec.ofInt_natCast, BitVec.ofInt_natCast, BitVec.toNat_ofNat, BitVec.toNat_ofNat, Nat.mod_eq_of_lt ha, Nat.mod_eq_of_lt hb]
theorem bv_and {w a b : Nat} (ha : a < 2 ^ w) (hb : b < 2 ^ w) : (BitVec.ofInt w (a : Int) &&& BitVec.ofInt w (b : Int)).toNat = a &&& b := by
  rw [BitVec.toNat_and, BitVec.ofInt_natCast, BitVec.ofInt_natCast, BitVec.toNat_ofNat, BitVec.toNat_ofNat, Nat.mod_eq_of_lt ha, Nat.mod_eq_of_lt hb]
theorem and127 (a : Nat) (ha : a < 256) : IntKind.u8.wrap ((BitVec.ofInt IntKind.u8.bits (a : Int) &&& BitVec.ofInt IntKind.u8.bits 127).toNat : Int) = ((a % 128 : Nat) : Int) := by
  have e : (127 : Int) = ((127 : Nat) : Int) := rfl
  have h := bv_and (w := 8) (a := a) (b := 127) ha (by decide)
  rw [show IntKind.u8.bits = 8 from rfl, e, h, Nat.and_two_pow_sub_one_eq_mod a 7]
  exact w_u8 (by omega)
theorem shiftN_u64 {s : Nat} (h : s ≤ 64) : shiftN .u64 (s : Int) = s := by unfold shiftN; rw [Int.toNat_natCast]; exact Nat.min_eq_left h
theorem shiftN_i64 {s : Nat} (h : s ≤ 64) : shiftN .i64 (s : Int) = s := by unfold shiftN; rw [Int.toNat_natCast]; exact Nat.min_eq_left h
theorem shiftN_u8 {s : Nat} (h : s ≤ 8) : shiftN .u8 (s : Int) = s := by unfold shiftN; rw [Int.toNat_natCast]; exact Nat.min_eq_left h
theorem shr_u8 (c : Nat) {s : Nat} (h : s ≤ 8) : (c : Int).fdiv (2 ^ shiftN .u8 (s : Int)) = ((c / 2 ^ s : Nat) : Int) := by
  rw [shiftN_u8 h, Int.fdiv_eq_ediv_of_nonneg _ (Int.le_of_lt (Int.pow_pos (by omega)))]
  simp
/-- One more digit of a word. -/
theorem join_u64 {n x s : Nat} (hs : s ≤ 63) (hn : n < 2 ^ s) (hx : x * 2 ^ s < 2 ^ 64) :
    IntKind.u64.wrap ((BitVec.ofInt IntKind.u64.bits (n : Int) ||| BitVec.ofInt IntKind.u64.bits (IntKind.u64.wrap ((x : Int) * 2 ^ shiftN .u64 (s : Int)))).toNat : Int) = ((n + x * 2 ^ s : Nat) : Int) ∧ n + x * 2 ^ s < 2 ^ 64 := by
  have e1 : ((x : Int) * 2 ^ shiftN .u64 (s : Int)) = ((x * 2 ^ s : Nat) : Int) := by rw [shiftN_u64 (by omega)]; simp
  have hle : 2 ^ s ≤ 2 ^ 63 := Nat.pow_le_pow_right (by omega) hs
  have hlt : n + x * 2 ^ s < 2 ^ 64 := by
    have e : (2 : Nat) ^ 64 = 2 ^ (64 - s) * 2 ^ s := by rw [← Nat.pow_add, Nat.sub_add_cancel (by omega)]
    rw [e] at hx ⊢
    have hx2 : x < 2 ^ (64 - s) := Nat.lt_of_mul_lt_mul_right hx
    have : (x + 1) * 2 ^ s ≤ 2 ^ (64 - s) * 2 ^ s := Nat.mul_le_mul_right _ hx2
    rw [Nat.add_mul] at this
    omega
  refine ⟨?_, hlt⟩
  rw [e1, w_u64 (n := ((x * 2 ^ s : Nat) : Int)) (by omega), show IntKind.u64.bits = 64 from rfl, bv_or (w := 64) (by omega) hx, or_join n s x hn]
  exact w_u64 (by omega)
/-- What a reading comes to: a value and the place behind it, or the place of the fault and why. -/
inductive Rs (α : Type) where
  | ok (v : α) (p : Nat)
  | err (p e : Nat)
/-- An unsigned number of B bits, of which i digits are known (n), ahead of e. -/
def lebU (b : List UInt8) (B e : Nat) : Nat → Nat → Nat → Nat → Rs Nat
  | 0, _, _, p => .err p 4
  | f + 1, i, n, p =>
    if p < e then
      let c := (b.getD p 0).toNat
      if B < 7 * i + 7 ∧ c / 2 ^ (B - 7 * i) ≠ 0 then .err p 4
      else if c < 128 then .ok (n + c * 2 ^ (7 * i)) (p + 1)
      else lebU b B e f (i + 1) (n + c % 128 * 2 ^ (7 * i)) (p + 1)
    else .err e 3
end Go.Proofs.Ytofbbijagbpicaa.Pi
/- Signed numbers of seven-bit digits: plain. -/
namespace Go.Proofs.Ytofbbijagbpicaa.Pi
set_option linter.unusedVariables false
set_option linter.unusedSimpArgs false
theorem wi (x : Int) : IntKind.i64.wrap x = (x + 9223372036854775808) % 18446744073709551616 - 9223372036854775808 := by rw [IntKind.wrap_i64]
theorem wi_emod (x : Int) : IntKind.i64.wrap x % 18446744073709551616 = x % 18446744073709551616 := by rw [wi]; omega
theorem wi_congr {x y : Int} (h : x % 18446744073709551616 = y % 18446744073709551616) : IntKind.i64.wrap x = IntKind.i64.wrap y := by rw [wi, wi]; omega
theorem ofInt_emod (a : Int) : BitVec.ofInt 64 (a % 18446744073709551616) = BitVec.ofInt 64 a := by
  apply BitVec.eq_of_toNat_eq
  rw [BitVec.toNat_ofInt, BitVec.toNat_ofInt]
  have e : ((2 ^ 64 : Nat) : Int) = 18446744073709551616 := rfl
  rw [e, Int.emod_emod_of_dvd _ (Int.dvd_refl _)]
def or64 (a b : Int) : Int := ((BitVec.ofInt 64 a ||| BitVec.ofInt 64 b).toNat : Int)
theorem or64_emod (a b : Int) : or64 (a % 18446744073709551616) (b % 18446744073709551616) = or64 a b := by unfold or64; rw [ofInt_emod, ofInt_emod]
theorem pow64 {s : Nat} (h : s ≤ 64) : (18446744073709551616 : Int) = 2 ^ (64 - s) * 2 ^ s := by
  rw [← Int.pow_add, Nat.sub_add_cancel h]; rfl
theorem shifted_mod (x : Int) {s : Nat} (h : s ≤ 64) : (x * 2 ^ s) % 18446744073709551616 = (x % 2 ^ (64 - s)) * 2 ^ s := by
  rw [pow64 h, Int.mul_comm x, Int.mul_comm (2 ^ (64 - s)), Int.mul_emod_mul_of_pos _ _ (Int.pow_pos (by omega)), Int.mul_comm]
/-- Digits joined in a signed word. -/
theorem or_digit {N x : Int} {s : Nat} (hs : s ≤ 63) (h0 : 0 ≤ N) (h1 : N < 2 ^ s) : IntKind.i64.wrap (or64 (IntKind.i64.wrap N) (IntKind.i64.wrap (x * 2 ^ s))) = IntKind.i64.wrap (N + x * 2 ^ s) := by
  have hq : (0 : Int) < 2 ^ s := Int.pow_pos (by omega)
  have hr : (0 : Int) < 2 ^ (64 - s) := Int.pow_pos (by omega)
  have hp := pow64 (show s ≤ 64 by omega)
  have hle : (2 : Int) ^ s ≤ 18446744073709551616 := by
    have h4 : 1 * (2 : Int) ^ s ≤ 2 ^ (64 - s) * 2 ^ s := Int.mul_le_mul_of_nonneg_right (by omega) (by omega)
    omega
  have hm0 := Int.emod_nonneg x (show (2 : Int) ^ (64 - s) ≠ 0 by omega)
  have hm1 := Int.emod_lt_of_pos x hr
  have hN : N % 18446744073709551616 = N := by omega
  obtain ⟨a, rfl⟩ := Int.eq_ofNat_of_zero_le h0
  obtain ⟨m, hm⟩ := Int.eq_ofNat_of_zero_le hm0
  have ha : a < 2 ^ s := by
    have h2 : ((a : Nat) : Int) < ((2 ^ s : Nat) : Int) := by simpa using h1
    exact Int.ofNat_lt.1 h2
  have e2 : ((m : Int) * 2 ^ s) = ((m * 2 ^ s : Nat) : Int) := by simp
  have hb : m * 2 ^ s < 2 ^ 64 := by
    have h2 : (x % 2 ^ (64 - s) + 1) * 2 ^ s ≤ 2 ^ (64 - s) * 2 ^ s := Int.mul_le_mul_of_nonneg_right (by omega) (by omega)
    rw [← hp, Int.add_mul, hm, e2] at h2
    omega
  have hj := join_u64 (n := a) (x := m) hs ha hb
  rw [← or64_emod, wi_emod, wi_emod, hN, shifted_mod x (by omega), hm, e2]
  unfold or64
  have hsz : ((2 : Nat) ^ s) ≤ 2 ^ 64 := Nat.pow_le_pow_right (by omega) (by omega)
  rw [bv_or (w := 64) (by omega) hb, or_join a s m ha]
  apply wi_congr
  rw [Int.add_emod, shifted_mod x (by omega), hm, e2]
  have := hj.2
  omega
/-- Are a signed number's last bits as they must be? h: how many of them belong to the number. -/
def okS (h c : Nat) : Prop := c < 128 ∧ (c / 2 ^ (h - 1) = 0 ∨ c / 2 ^ (h - 1) = 2 ^ (8 - h) - 1)
instance (h c : Nat) : Decidable (okS h c) := by unfold okS; infer_instance
theorem i8_wrap (n : Int) : IntKind.i8.wrap n = (n + 128) % 256 - 128 := by
  have h : IntKind.i8.wrap n = if 128 ≤ n % 256 then n % 256 - 256 else n % 256 := by
    simp [IntKind.wrap, IntKind.bits, IntKind.signed]
  rw [h]; split <;> omega
theorem u8_wrap (n : Int) : IntKind.u8.wrap n = n % 256 := by
  simp [IntKind.wrap, IntKind.bits, IntKind.signed]
theorem top_ok {h : Nat} (hh : h = 1 ∨ h = 4 ∨ h = 5) {c : Nat} (c1 : c < 128) :
    ((IntKind.i8.wrap (IntKind.u8.wrap ((c : Int) * 2 ^ shiftN .u8 1))).fdiv (2 ^ shiftN .i8 (h : Int)) = 0 ∨ (IntKind.i8.wrap (IntKind.u8.wrap ((c : Int) * 2 ^ shiftN .u8 1))).fdiv (2 ^ shiftN .i8 (h : Int)) = -1) ↔ okS h c := by
  have e1 : ((c : Int) * 2 ^ shiftN .u8 1) = (c : Int) * 2 := rfl
  have e2 : shiftN .i8 (h : Int) = h := by unfold shiftN; rw [Int.toNat_natCast]; exact Nat.min_eq_left (by show h ≤ 8; omega)
  rw [i8_wrap, u8_wrap, e1, e2, Int.fdiv_eq_ediv_of_nonneg _ (Int.le_of_lt (Int.pow_pos (by omega)))]
  unfold okS
  rcases hh with rfl | rfl | rfl
  · show ((((c * 2 : Int) % 256 + 128) % 256 - 128) / 2 ^ 1 = 0 ∨ (((c * 2 : Int) % 256 + 128) % 256 - 128) / 2 ^ 1 = -1) ↔ (c < 128 ∧ (c / 2 ^ 0 = 0 ∨ c / 2 ^ 0 = 2 ^ 7 - 1))
    omega
  · show ((((c * 2 : Int) % 256 + 128) % 256 - 128) / 2 ^ 4 = 0 ∨ (((c * 2 : Int) % 256 + 128) % 256 - 128) / 2 ^ 4 = -1) ↔ (c < 128 ∧ (c / 2 ^ 3 = 0 ∨ c / 2 ^ 3 = 2 ^ 4 - 1))
    omega
  · show ((((c * 2 : Int) % 256 + 128) % 256 - 128) / 2 ^ 5 = 0 ∨ (((c * 2 : Int) % 256 + 128) % 256 - 128) / 2 ^ 5 = -1) ↔ (c < 128 ∧ (c / 2 ^ 4 = 0 ∨ c / 2 ^ 4 = 2 ^ 3 - 1))
    omega
theorem and64 (a : Nat) (ha : a < 128) : IntKind.u8.wrap ((BitVec.ofInt IntKind.u8.bits (a : Int) &&& BitVec.ofInt IntKind.u8.bits 64).toNat : Int) = if a < 64 then 0 else 64 := by
  have e : (64 : Int) = ((64 : Nat) : Int) := rfl
  have h := bv_and (w := 8) (a := a) (b := 64) (by omega) (by decide)
  have h2 : ∀ y, y < 128 → y &&& 64 = if y < 64 then 0 else 64 := by decide +kernel
  rw [show IntKind.u8.bits = 8 from rfl, e, h, h2 a ha]
  split <;> rfl
/-- A digit's part of a signed number's value, if it is the last one. -/
def lastS (c s : Nat) : Int := (if c < 64 then (c : Int) else (c : Int) - 128) * 2 ^ s
/-- A signed number of B bits, of which i digits are known (n), ahead of e. -/
def lebS (b : List UInt8) (B e : Nat) : Nat → Nat → Nat → Nat → Rs Int
  | 0, _, _, p => .err p 4
  | f + 1, i, n, p =>
    if p < e then
      let c := (b.getD p 0).toNat
      if B < 7 * i + 7 ∧ ¬ okS (B - 7 * i) c then .err p 4
      else if c < 128 then .ok (IntKind.i64.wrap (n + lastS c (7 * i))) (p + 1)
      else lebS b B e f (i + 1) (n + c % 128 * 2 ^ (7 * i)) (p + 1)
    else .err e 3
def rdS (b : List UInt8) (B e p : Nat) : Rs Int := lebS b B e 10 0 0 p
end Go.Proofs.Ytofbbijagbpicaa.Pi
/- A row's slice of bytes, opened as told data. -/
namespace Go.Proofs.Ytofbbijagbpicaa.Pi
open Go.ChangeShapes Go.WideShapes
set_option linter.unusedVariables false
set_option linter.unusedSimpArgs false
/-- The cells of a world that stay. -/
def imOf (w : World) (b o : Nat) : Option Value := w.cell? ⟨b, o, none⟩
theorem imOf_ok (w : World) : ∀ b o v, imOf w b o = some v → w.cell? ⟨b, o, none⟩ = some v := fun _ _ _ h => h
def wordsOf (zs : List Int) : List UInt8 := zs.map fun n => UInt8.ofNat n.toNat
theorem wf_u8 {n : Int} (h : (Lit.int .u8 n).wf = true) : 0 ≤ n ∧ n < 256 := by
  simp [Lit.wf, IntKind.min, IntKind.max, IntKind.bits, IntKind.signed] at h
  omega
theorem spot_none {P : Program} {w : World} {base : Nat} {t e : TypeId} {a : Addr} {len cap : Nat} (ht : P.underlying t = some (.slice e)) (h : Value.okWide P w .any base t (.slice (some a) len cap)) : a.spot = none := by
  unfold Value.okWide at h
  simp only [ht] at h
  unfold Cell.okWide at h
  simp only [ht] at h
  unfold Cell.ok at h
  simp only [ht] at h
  exact h.2.2.2.1
theorem open_bytes {H : Type} {enc : TypeId × Value → H} {P : Program} {W : World} {base : Nat} {spare : Nat → Bool} {held : Bool} {t e : TypeId} {v : Value} {d : DataW H} {ps : List MemPlace} {ts : List TypeId} {ds : List (DataW H)} {j : Nat}
    (hsz : (DataW.weightsEach P ts ds).all (· ≤ reachBytes) = true) (htj : ts[j]? = some t) (hd : ds[j]? = some d) (hu : P.underlying t = some (.slice e)) (he : P.underlying e = some (.int .u8)) (hc : P.cellsOf e = 1) (hB : P.bytesOf e = 1)
    (hok : Value.okWide P W .any base t v) {b0 : Nat} (h : DataW.Trod enc P W b0 spare held t v d ps) :
    ∃ z b, b.length ≤ 140737488351232 ∧ Rep [] (imOf W) (BS z b) v ∧ ∀ x ∈ ps, x.block < W.heap.size := by
  obtain ⟨a, len, cap, rfl⟩ := okWide_slice hu hok
  have k := h
  have lt : ∀ x ∈ ps, x.block < W.heap.size := by obtain ⟨m, hm⟩ := k; exact DataW.trod_lt m _ _ _ hm
  obtain ⟨fuel, hf⟩ := h
  rcases open_ints hu he hc hf with ⟨hcs, _⟩ | ⟨x, l, c, zs, hcs, _, hl, hm, hz, hx, hcell, hwz⟩
  · simp [Value.cells] at hcs
    obtain ⟨rfl, rfl, rfl⟩ := hcs
    exact ⟨true, [], by simp, .flat (.snil 1), lt⟩
  · simp [Value.cells] at hcs
    obtain ⟨rfl, rfl, rfl⟩ := hcs
    have hsp := spot_none hu hok
    obtain ⟨g, o, sp⟩ := x
    obtain rfl : sp = none := hsp
    have hlz : len ≤ zs.length := by rw [hz]; split <;> omega
    refine ⟨false, wordsOf (zs.take len), ?_, ?_, lt⟩
    · obtain ⟨hx, _⟩ := Prod.mk.inj hx
      subst hx
      have z := sized_slice hsz htj hd hu
      rw [hB] at z
      have h1 : (lits (H := H) .u8 (zs.take len)).length + (lits (H := H) .u8 (zs.drop len)).length = zs.length := by
        simp [lits]
        omega
      rw [h1] at z
      simp only [wordsOf, List.length_map, List.length_take]
      have : reachBytes = 140737488351232 := rfl
      omega
    · have hln : (bytes (wordsOf (zs.take len))).length = len := by simp [bytes, wordsOf, hlz]
      have hget : ∀ (i : Nat) (x : PV), (bytes (wordsOf (zs.take len)))[i]? = some x → i < len ∧ x = .int .u8 (zs.getD i 0) := by
        intro i x hx
        have hi : i < len := by
          have := (List.getElem?_eq_some_iff.mp hx).1
          omega
        refine ⟨hi, ?_⟩
        have hiz : i < zs.length := by omega
        have e1 : (bytes (wordsOf (zs.take len)))[i]? = some (byt (UInt8.ofNat (zs[i]).toNat)) := by
          simp [bytes, wordsOf, hi, hiz]
        rw [e1] at hx
        obtain rfl := Option.some.inj hx
        have hw := wf_u8 (hwz _ (List.getElem_mem hiz))
        have e2 : zs.getD i 0 = zs[i] := by simp [List.getD, hiz]
        rw [e2]
        unfold byt
        congr 1
        have : (UInt8.ofNat (zs[i]).toNat).toNat = (zs[i]).toNat := by
          rw [UInt8.toNat_ofNat']
          omega
        rw [this]
        omega
      have hadd : ∀ i : Nat, i < len → W.cell? ⟨g, o + i, none⟩ = some (.int .u8 (zs.getD i 0)) := by
        intro i hi
        have := hcell i (by omega)
        unfold Addr.add at this
        split at this
        · rename_i h0
          subst h0
          simpa using this
        · exact this
      have hrep := RepF.slice (im := imOf W) (g := g) (o := o) (cap := cap) (sz := 1) (xs := bytes (wordsOf (zs.take len))) (fun i _ => .int .u8 (zs.getD i 0)) (by omega)
        (fun i x hx => by rw [(hget i x hx).2]; rfl)
        (fun i x j c hx hc => by
          obtain ⟨hi, rfl⟩ := hget i x hx
          have hj : j = 0 := by
            have := (List.getElem?_eq_some_iff.mp hc).1
            simp [PV.cells] at this
            omega
          subst hj
          unfold imOf
          simpa using hadd i hi)
        (fun i x j c hx hc => by
          obtain ⟨hi, rfl⟩ := hget i x hx
          have hj : j = 0 := by
            have := (List.getElem?_eq_some_iff.mp hc).1
            simp [PV.cells] at this
            omega
          subst hj
          simp [PV.cells] at hc
          subst hc
          exact .int _ _)
      rw [hln] at hrep
      exact .flat hrep
theorem args_two {im : Nat → Nat → Option Value} {p q : PV} {v u : Value} (h : Rep [] im p v) (hs : strip p = p) (k : Rep [] im q u) (ks : strip q = q) : ArgsOk (gOf im) [p, q] #[v, u] :=
  ⟨rfl, fun j x y hx hy => by
    match j, hx, hy with
    | 0, hx, hy => simp at hx hy; subst hx hy; exact ⟨.one (.pure h), hs⟩
    | 1, hx, hy => simp at hx hy; subst hx hy; exact ⟨.one (.pure k), ks⟩⟩
theorem args_one {im : Nat → Nat → Option Value} {p : PV} {v : Value} (h : Rep [] im p v) (hs : strip p = p) : ArgsOk (gOf im) [p] #[v] :=
  ⟨rfl, fun j x y hx hy => by
    match j, hx, hy with
    | 0, hx, hy => simp at hx hy; subst hx hy; exact ⟨.one (.pure h), hs⟩⟩
end Go.Proofs.Ytofbbijagbpicaa.Pi
/- The rules of reckoning, told together: one for what is met on the way down, one for the way up. -/
namespace Go.Proofs.Ytofbbijagbpicaa.Pi
set_option linter.unusedVariables false
set_option maxRecDepth 100000
theorem goDown : type_of% (And.intro (And.intro (And.intro (And.intro (And.intro @run_bind @bindR_ok) (And.intro @bindR_none @bindR_pan)) (And.intro (And.intro @bindR_ite
    @run_nb) (And.intro @nbR_ok @nbR_ite))) (And.intro (And.intro (And.intro @run_trunc @truncR_ite) (And.intro @truncR_none @truncR_ok)) (And.intro
    (And.intro @truncR_pan @run_guard) (And.intro @run_resT (And.intro @run_cond @run_gdT))))) (And.intro (And.intro (And.intro (And.intro @run_gdF
    @run_gdS) (And.intro @run_pure @run_pan)) (And.intro (And.intro @run_fail @run_noPan) (And.intro @noPanR_ok @noPanR_pan))) (And.intro (And.intro
    (And.intro @noPanR_none @noPanR_ite) (And.intro @run_chk @chkR_ok)) (And.intro (And.intro @run_defer @defR_none) (And.intro @defR_ok (And.intro
    @defR_pan @defR_ite)))))) := (And.intro (And.intro (And.intro (And.intro (And.intro @run_bind @bindR_ok) (And.intro @bindR_none @bindR_pan)) (And.intro (And.intro @bindR_ite
    @run_nb) (And.intro @nbR_ok @nbR_ite))) (And.intro (And.intro (And.intro @run_trunc @truncR_ite) (And.intro @truncR_none @truncR_ok)) (And.intro
    (And.intro @truncR_pan @run_guard) (And.intro @run_resT (And.intro @run_cond @run_gdT))))) (And.intro (And.intro (And.intro (And.intro @run_gdF
    @run_gdS) (And.intro @run_pure @run_pan)) (And.intro (And.intro @run_fail @run_noPan) (And.intro @noPanR_ok @noPanR_pan))) (And.intro (And.intro
    (And.intro @noPanR_none @noPanR_ite) (And.intro @run_chk @chkR_ok)) (And.intro (And.intro @run_defer @defR_none) (And.intro @defR_ok (And.intro
    @defR_pan @defR_ite))))))
theorem goUp : type_of% (And.intro (And.intro (And.intro (And.intro (And.intro (And.intro (And.intro @strip_skip (And.intro @run_pick @run_al)) (And.intro (And.intro @run_bx
    @run_ld) (And.intro @run_st @ldB_some))) (And.intro (And.intro (And.intro @nth_zero @nth_succ) (And.intro @ldTR_some @ldFR_some)) (And.intro
    (And.intro @ldB_t @ldB_f) (And.intro @stB_is @run_ldE0)))) (And.intro (And.intro (And.intro @run_ldEn (And.intro @get_loc @get_loc0)) (And.intro
    (And.intro @get_old @set_loc) (And.intro @set_loc0 @set_old))) (And.intro (And.intro (And.intro @get_set @set_set) (And.intro @add_add @cut0))
    (And.intro (And.intro @cut1 @cut2) (And.intro @cutA0 @cutA1))))) (And.intro (And.intro (And.intro (And.intro @cutA2 (And.intro @len_add @len_set))
    (And.intro (And.intro @w_i64 @w_u64) (And.intro @w_u8 @w_u32))) (And.intro (And.intro (And.intro @w_i32 @run_quo) (And.intro @run_rem @iaR_some))
    (And.intro (And.intro @run_iaS @run_fa) (And.intro @run_faE @callV_fn)))) (And.intro (And.intro (And.intro @nc_ptr (And.intro @nc_elem @nc_nil))
    (And.intro (And.intro @run_mi @run_pn) (And.intro @run_cvI @run_ex0))) (And.intro (And.intro (And.intro @run_ex1 @run_ex2) (And.intro @tupDrop0
    @tupDrop1)) (And.intro (And.intro @tupDrop2 @isTup_int) (And.intro @isCell_int @isVal_int)))))) (And.intro (And.intro (And.intro (And.intro
    (And.intro @isPtr_int (And.intro @cells_int @low_int)) (And.intro (And.intro @isTup_bool @isCell_bool) (And.intro @isVal_bool @isPtr_bool)))
    (And.intro (And.intro (And.intro @cells_bool @low_bool) (And.intro @isTup_str @isCell_str)) (And.intro (And.intro @isVal_str @isPtr_str) (And.intro
    @cells_str @low_str)))) (And.intro (And.intro (And.intro @isTup_nil (And.intro @isCell_nil @isVal_nil)) (And.intro (And.intro @isPtr_nil
    @cells_nil) (And.intro @low_nil @isTup_ptr))) (And.intro (And.intro (And.intro @isCell_ptr @isVal_ptr) (And.intro @isPtr_ptr @cells_ptr))
    (And.intro (And.intro @low_ptr @isTup_elem) (And.intro @isCell_elem @isVal_elem))))) (And.intro (And.intro (And.intro (And.intro @isPtr_elem
    (And.intro @cells_elem @low_elem)) (And.intro (And.intro @isTup_slice @isCell_slice) (And.intro @isVal_slice @isPtr_slice))) (And.intro (And.intro
    (And.intro @cells_slice @low_slice) (And.intro @isTup_fn @isCell_fn)) (And.intro (And.intro @isVal_fn @isPtr_fn) (And.intro @cells_fn @low_fn))))
    (And.intro (And.intro (And.intro @isTup_nilfn (And.intro @isCell_nilfn @isVal_nilfn)) (And.intro (And.intro @isPtr_nilfn @cells_nilfn) (And.intro
    @low_nilfn @isTup_iface))) (And.intro (And.intro (And.intro @isCell_iface @isVal_iface) (And.intro @isPtr_iface @cells_iface)) (And.intro
    (And.intro @low_iface @isTup_niliface) (And.intro @isCell_niliface @isVal_niliface))))))) (And.intro (And.intro (And.intro (And.intro (And.intro
    (And.intro @isPtr_niliface (And.intro @cells_niliface @low_niliface)) (And.intro (And.intro @isTup_agg @isCell_agg) (And.intro @isVal_agg
    @isPtr_agg))) (And.intro (And.intro (And.intro @cells_agg @low_agg) (And.intro @isTup_tup @isCell_tup)) (And.intro (And.intro @isVal_tup
    @isPtr_tup) (And.intro @cells_tup @low_tup)))) (And.intro (And.intro (And.intro @isTup_undef (And.intro @isCell_undef @isVal_undef)) (And.intro
    (And.intro @isPtr_undef @cells_undef) (And.intro @low_undef @lowL_nil))) (And.intro (And.intro (And.intro @lowL_cons @bdR_some) (And.intro @run_bd
    @fillAll_nil)) (And.intro (And.intro @fillAll_cons @fillAt_is) (And.intro @run_bs @tld_ptr))))) (And.intro (And.intro (And.intro (And.intro
    @tst_ptr (And.intro @tld_elem @clash_no)) (And.intro (And.intro @clash_no' @clash_ld_ld) (And.intro @clash_ld_st @clash_st_ld))) (And.intro
    (And.intro (And.intro @clash_st_st @clash_any_ld) (And.intro @clash_ld_any @clash_any_any)) (And.intro (And.intro @strip_int @strip_bool)
    (And.intro @strip_str @strip_slice)))) (And.intro (And.intro (And.intro @strip_ptr (And.intro @strip_agg @strip_elem)) (And.intro (And.intro
    @strip_nil @strip_niliface) (And.intro @strip_iface @strip_fn))) (And.intro (And.intro (And.intro @strip_undef @strip_tup) (And.intro @stripC_int
    @stripC_bool)) (And.intro (And.intro @stripC_str @stripC_slice) (And.intro @stripC_ptr @stripC_agg)))))) (And.intro (And.intro (And.intro
    (And.intro (And.intro @stripC_nil (And.intro @stripC_niliface @stripC_iface)) (And.intro (And.intro @stripC_fn @bi_add) (And.intro @bi_sub
    @bi_mul))) (And.intro (And.intro (And.intro @bi_eql @bi_neq) (And.intro @bi_lss @bi_leq)) (And.intro (And.intro @bi_gtr @bi_geq) (And.intro
    @bi_seql @bi_sneq)))) (And.intro (And.intro (And.intro @bi_beql (And.intro @bi_bneq @un_not)) (And.intro (And.intro @lnL_slice @lnS_str) (And.intro
    @mx_int @mn_int))) (And.intro (And.intro (And.intro @cv_int @Bool.and_true) (And.intro @Bool.true_and @Bool.and_self)) (And.intro (And.intro
    @Bool.not_true @Bool.not_false) (And.intro @Bool.and_false @Bool.false_and))))) (And.intro (And.intro (And.intro (And.intro @Bool.or_true
    (And.intro @Bool.or_false @Bool.true_or)) (And.intro (And.intro @Bool.false_or @Bool.false_eq_true) (And.intro @decide_eq_true_eq @and_self)))
    (And.intro (And.intro (And.intro @and_true @true_and) (And.intro @not_true_eq_false @not_false_eq_true)) (And.intro (And.intro @Nat.zero_add
    @Nat.add_zero) (And.intro @Nat.le_refl @Nat.lt_add_one)))) (And.intro (And.intro (And.intro (And.intro @Nat.lt_irrefl @and_false) (And.intro
    @false_and @Bool.not_eq_true')) (And.intro (And.intro @Bool.not_eq_eq_eq_not @decide_eq_false_iff_not) (And.intro @Bool.and_eq_true
    @Bool.or_eq_true))) (And.intro (And.intro (And.intro @decide_true @decide_false) (And.intro @get_loc1 @get_loc01)) (And.intro (And.intro @set_loc1
    @set_loc01) (And.intro @get_old1 @set_old1)))))))) := (And.intro (And.intro (And.intro (And.intro (And.intro (And.intro (And.intro @strip_skip (And.intro @run_pick @run_al)) (And.intro (And.intro @run_bx
    @run_ld) (And.intro @run_st @ldB_some))) (And.intro (And.intro (And.intro @nth_zero @nth_succ) (And.intro @ldTR_some @ldFR_some)) (And.intro
    (And.intro @ldB_t @ldB_f) (And.intro @stB_is @run_ldE0)))) (And.intro (And.intro (And.intro @run_ldEn (And.intro @get_loc @get_loc0)) (And.intro
    (And.intro @get_old @set_loc) (And.intro @set_loc0 @set_old))) (And.intro (And.intro (And.intro @get_set @set_set) (And.intro @add_add @cut0))
    (And.intro (And.intro @cut1 @cut2) (And.intro @cutA0 @cutA1))))) (And.intro (And.intro (And.intro (And.intro @cutA2 (And.intro @len_add @len_set))
    (And.intro (And.intro @w_i64 @w_u64) (And.intro @w_u8 @w_u32))) (And.intro (And.intro (And.intro @w_i32 @run_quo) (And.intro @run_rem @iaR_some))
    (And.intro (And.intro @run_iaS @run_fa) (And.intro @run_faE @callV_fn)))) (And.intro (And.intro (And.intro @nc_ptr (And.intro @nc_elem @nc_nil))
    (And.intro (And.intro @run_mi @run_pn) (And.intro @run_cvI @run_ex0))) (And.intro (And.intro (And.intro @run_ex1 @run_ex2) (And.intro @tupDrop0
    @tupDrop1)) (And.intro (And.intro @tupDrop2 @isTup_int) (And.intro @isCell_int @isVal_int)))))) (And.intro (And.intro (And.intro (And.intro
    (And.intro @isPtr_int (And.intro @cells_int @low_int)) (And.intro (And.intro @isTup_bool @isCell_bool) (And.intro @isVal_bool @isPtr_bool)))
    (And.intro (And.intro (And.intro @cells_bool @low_bool) (And.intro @isTup_str @isCell_str)) (And.intro (And.intro @isVal_str @isPtr_str) (And.intro
    @cells_str @low_str)))) (And.intro (And.intro (And.intro @isTup_nil (And.intro @isCell_nil @isVal_nil)) (And.intro (And.intro @isPtr_nil
    @cells_nil) (And.intro @low_nil @isTup_ptr))) (And.intro (And.intro (And.intro @isCell_ptr @isVal_ptr) (And.intro @isPtr_ptr @cells_ptr))
    (And.intro (And.intro @low_ptr @isTup_elem) (And.intro @isCell_elem @isVal_elem))))) (And.intro (And.intro (And.intro (And.intro @isPtr_elem
    (And.intro @cells_elem @low_elem)) (And.intro (And.intro @isTup_slice @isCell_slice) (And.intro @isVal_slice @isPtr_slice))) (And.intro (And.intro
    (And.intro @cells_slice @low_slice) (And.intro @isTup_fn @isCell_fn)) (And.intro (And.intro @isVal_fn @isPtr_fn) (And.intro @cells_fn @low_fn))))
    (And.intro (And.intro (And.intro @isTup_nilfn (And.intro @isCell_nilfn @isVal_nilfn)) (And.intro (And.intro @isPtr_nilfn @cells_nilfn) (And.intro
    @low_nilfn @isTup_iface))) (And.intro (And.intro (And.intro @isCell_iface @isVal_iface) (And.intro @isPtr_iface @cells_iface)) (And.intro
    (And.intro @low_iface @isTup_niliface) (And.intro @isCell_niliface @isVal_niliface))))))) (And.intro (And.intro (And.intro (And.intro (And.intro
    (And.intro @isPtr_niliface (And.intro @cells_niliface @low_niliface)) (And.intro (And.intro @isTup_agg @isCell_agg) (And.intro @isVal_agg
    @isPtr_agg))) (And.intro (And.intro (And.intro @cells_agg @low_agg) (And.intro @isTup_tup @isCell_tup)) (And.intro (And.intro @isVal_tup
    @isPtr_tup) (And.intro @cells_tup @low_tup)))) (And.intro (And.intro (And.intro @isTup_undef (And.intro @isCell_undef @isVal_undef)) (And.intro
    (And.intro @isPtr_undef @cells_undef) (And.intro @low_undef @lowL_nil))) (And.intro (And.intro (And.intro @lowL_cons @bdR_some) (And.intro @run_bd
    @fillAll_nil)) (And.intro (And.intro @fillAll_cons @fillAt_is) (And.intro @run_bs @tld_ptr))))) (And.intro (And.intro (And.intro (And.intro
    @tst_ptr (And.intro @tld_elem @clash_no)) (And.intro (And.intro @clash_no' @clash_ld_ld) (And.intro @clash_ld_st @clash_st_ld))) (And.intro
    (And.intro (And.intro @clash_st_st @clash_any_ld) (And.intro @clash_ld_any @clash_any_any)) (And.intro (And.intro @strip_int @strip_bool)
    (And.intro @strip_str @strip_slice)))) (And.intro (And.intro (And.intro @strip_ptr (And.intro @strip_agg @strip_elem)) (And.intro (And.intro
    @strip_nil @strip_niliface) (And.intro @strip_iface @strip_fn))) (And.intro (And.intro (And.intro @strip_undef @strip_tup) (And.intro @stripC_int
    @stripC_bool)) (And.intro (And.intro @stripC_str @stripC_slice) (And.intro @stripC_ptr @stripC_agg)))))) (And.intro (And.intro (And.intro
    (And.intro (And.intro @stripC_nil (And.intro @stripC_niliface @stripC_iface)) (And.intro (And.intro @stripC_fn @bi_add) (And.intro @bi_sub
    @bi_mul))) (And.intro (And.intro (And.intro @bi_eql @bi_neq) (And.intro @bi_lss @bi_leq)) (And.intro (And.intro @bi_gtr @bi_geq) (And.intro
    @bi_seql @bi_sneq)))) (And.intro (And.intro (And.intro @bi_beql (And.intro @bi_bneq @un_not)) (And.intro (And.intro @lnL_slice @lnS_str) (And.intro
    @mx_int @mn_int))) (And.intro (And.intro (And.intro @cv_int @Bool.and_true) (And.intro @Bool.true_and @Bool.and_self)) (And.intro (And.intro
    @Bool.not_true @Bool.not_false) (And.intro @Bool.and_false @Bool.false_and))))) (And.intro (And.intro (And.intro (And.intro @Bool.or_true
    (And.intro @Bool.or_false @Bool.true_or)) (And.intro (And.intro @Bool.false_or @Bool.false_eq_true) (And.intro @decide_eq_true_eq @and_self)))
    (And.intro (And.intro (And.intro @and_true @true_and) (And.intro @not_true_eq_false @not_false_eq_true)) (And.intro (And.intro @Nat.zero_add
    @Nat.add_zero) (And.intro @Nat.le_refl @Nat.lt_add_one)))) (And.intro (And.intro (And.intro (And.intro @Nat.lt_irrefl @and_false) (And.intro
    @false_and @Bool.not_eq_true')) (And.intro (And.intro @Bool.not_eq_eq_eq_not @decide_eq_false_iff_not) (And.intro @Bool.and_eq_true
    @Bool.or_eq_true))) (And.intro (And.intro (And.intro @decide_true @decide_false) (And.intro @get_loc1 @get_loc01)) (And.intro (And.intro @set_loc1
    @set_loc01) (And.intro @get_old1 @set_old1))))))))
end Go.Proofs.Ytofbbijagbpicaa.Pi
