/- What the law rests on, part 3 of 4: a reading of the program's code over told data, and what it comes to. -/
import Derived.Test.YtjcffopjohkmaaaDoorPiZ1
set_option linter.unusedVariables false
set_option linter.unusedSimpArgs false
set_option maxRecDepth 100000
namespace Go.Proofs.YtjcffopjohkmaaaDoor.Pi
def u1d (l : List Tmp) (e e' : Env) : Prop := ∀ t ∈ l, e.getD t .undef = e'.getD t .undef
theorem ujv {e e' : Env} {x : Operand} (h : ∀ t, x = .tmp t → e.getD t .undef = e'.getD t .undef) : ev e x = ev e' x := by
  cases x with
  | tmp t => exact h t rfl
  | _ => rfl
theorem u9a {ops : Array Oper} {o : Oper} {e e' : Env} (h : u1d (o.looksAt ops) e e') : ∀ x ∈ o.op.operands, ev e x = ev e' x := by
  intro x hx
  refine ujv fun t ht => h t ?_
  subst ht
  exact List.mem_append_left _ (List.mem_filterMap.2 ⟨.tmp t, by simpa using hx, rfl⟩)
theorem uce {P : Program} {e e' : Env} {place : Nat → Option (Nat × Nat)} {ps : Array (Nat × Operand)} (h : ∀ x ∈ ps.map (·.2), ev e x = ev e' x) : parts P e place ps = parts P e' place ps := by
  unfold parts
  refine List.map_congr_left fun p hp => ?_
  obtain ⟨i, x⟩ := p
  have := h x (Array.mem_map.2 ⟨(i, x), by simpa using hp, rfl⟩)
  simp only [this]
theorem u8i {ops : Array Oper} {dst : Option Tmp} {t : TypeId} {ps : Array (Nat × Operand)} {ty : TypeId} {pos : String} {after : Array Edge} {guard : Option (Nat × Bool)} {i s : Nat} (hh : handB ops ⟨dst, .build t ps, ty, pos, after, guard⟩ = some (i, s)) : ps.toList = [(i, .tmp s)] := by
  unfold handB at hh
  dsimp only at hh
  cases hb : boxedB ops dst with
  | false => rw [hb] at hh; cases hh
  | true =>
    rw [hb] at hh
    unfold single at hh
    dsimp only [cond_true] at hh
    split at hh
    · rename_i hl
      simp only [Option.some.injEq, Prod.mk.injEq] at hh
      rw [hl, hh.1, hh.2]
    · cases hh
theorem uha {P : Program} {C : CallT} {es : Bool} {rc : Option (Option PV)} {ops : Array Oper} {o : Oper} {e e' : Env} (hr : u05 o = false) (h : u1d (o.looksAt ops) e e') : op0 P C es rc ops e o = op0 P C es rc ops e' o := by
  have hx := u9a h
  obtain ⟨dst, op, ty, pos, after, guard⟩ := o
  have pairs : ∀ ps : Array (Nat × Operand), (∀ x ∈ ps.map (·.2), ev e x = ev e' x) → (ps.toList.map fun p => ev e p.2) = (ps.toList.map fun p => ev e' p.2) := fun ps hp =>
    List.map_congr_left fun p hm => hp p.2 (Array.mem_map.2 ⟨p, by simpa using hm, rfl⟩)
  have maps : ∀ (xs : Array Operand), (∀ x ∈ xs, ev e x = ev e' x) → xs.toList.map (ev e) = xs.toList.map (ev e') := fun xs hp =>
    List.map_congr_left fun x hm => hp x (by simpa using hm)
  have mapss : ∀ (xs : Array Operand), (∀ x ∈ xs, ev e x = ev e' x) → (xs.toList.map fun x => strip (ev e x)) = (xs.toList.map fun x => strip (ev e' x)) := fun xs hp =>
    List.map_congr_left fun x hm => by rw [hp x (by simpa using hm)]
  cases op <;> simp only [Op.operands] at hx <;> unfold op0 <;> dsimp only
  case build t ps =>
    have := fun place => uce (P := P) (e := e) (e' := e') (place := place) (ps := ps) (fun x hm => hx x (by simpa using hm))
    cases hh : handB ops ⟨dst, .build t ps, ty, pos, after, guard⟩ with
    | none => simp only [this]
    | some is =>
      obtain ⟨i, s⟩ := is
      have hps := u8i hh
      have : e.getD s .undef = e'.getD s .undef := hx (.tmp s) (by
        rw [hps]
        simp)
      simp only [this]
      cases P.underlying t with
      | none => rfl
      | some d => cases d <;> first | rfl | (simp only [Option.isNone_some, Bool.and_false]; rfl)
  case buildSlice t n ps => rw [pairs ps fun x hm => hx x (by simpa using hm)]
  case makeFunc fn first captured =>
    cases fn with
    | func f => dsimp only; rw [maps first fun x hm => hx x (by simp [hm]), maps captured fun x hm => hx x (by simp [hm])]
    | _ => rfl
  case call c =>
    obtain ⟨callee, args, tys⟩ := c
    cases callee with
    | value f =>
      dsimp only
      rw [mapss args fun x hm => hx x (by simp [Call.operands, hm]), hx f (by simp [Call.operands])]
    | invoke r m => rfl
    | builtin b =>
      cases b <;> first | (simp [u05] at hr; done) | (dsimp only; rw [maps args fun x hm => hx x (by simp [Call.operands, hm])])
  case slice t x lo hi mx =>
    cases mx with
    | none => cases lo <;> cases hi <;> simp_all
    | some m =>
      have e1 := hx x (by simp)
      have e2 := hx m (by simp)
      cases hi with
      | none => simp_all
      | some q =>
        have e3 := hx q (by simp)
        cases lo with
        | none =>
          dsimp only [Option.map]
          rw [e1, e2]
          cases P.underlying t with
          | none => rfl
          | some d => cases d <;> first | rfl | (dsimp only; rw [e3])
        | some l =>
          have e4 := hx l (by simp)
          dsimp only [Option.map]
          rw [e1, e2, e4]
          cases P.underlying t with
          | none => rfl
          | some d => cases d <;> first | rfl | (dsimp only; rw [e3])
  case next it b => cases b <;> simp_all
  all_goals (first | rfl | (simp_all; done))
theorem uge {P : Program} {nw : Bool} {ops : Array Oper} {o : Oper} {e e' : Env} (h : u1d (o.looksAt ops) e e') : opL P nw e o = opL P nw e' o := by
  have hx := u9a h
  obtain ⟨dst, op, ty, pos, after, guard⟩ := o
  have pairs : ∀ ps : Array (Nat × Operand), (∀ x ∈ ps.map (·.2), ev e x = ev e' x) → (ps.toList.map fun p => ev e p.2) = (ps.toList.map fun p => ev e' p.2) := fun ps hp =>
    List.map_congr_left fun p hm => hp p.2 (Array.mem_map.2 ⟨p, by simpa using hm, rfl⟩)
  have maps : ∀ (xs : Array Operand), (∀ x ∈ xs, ev e x = ev e' x) → xs.toList.map (ev e) = xs.toList.map (ev e') := fun xs hp =>
    List.map_congr_left fun x hm => hp x (by simpa using hm)
  cases op <;> simp only [Op.operands] at hx <;> unfold opL <;> dsimp only
  case buildSlice t n ps => rw [pairs ps fun x hm => hx x (by simpa using hm)]
  case call c =>
    obtain ⟨callee, args, tys⟩ := c
    cases callee with
    | value f => rfl
    | invoke r m => rfl
    | builtin b =>
      cases b <;> first | rfl | (dsimp only; rw [maps args fun x hm => hx x (by simp [Call.operands, hm])])
  all_goals (first | rfl | (simp_all; done))
theorem u65 {P : Program} {C : CallT} {es : Bool} {rc : Option (Option PV)} {ops : Array Oper} {o : Oper} {e e' : Env} (hr : u05 o = false) (h : u1d (o.looksAt ops) e e') : opVal P C es rc ops e o = opVal P C es rc ops e' o := by
  unfold opVal
  cases LO o with
  | none => exact uha hr h
  | some nw => exact uge h
def listO : Op → Bool
  | .buildSlice .. | .makeSlice .. | .convert .. => true
  | .call { callee := .builtin .append, .. } => true
  | _ => false
theorem u21 {P : Program} {C : CallT} {es : Bool} {rc : Option (Option PV)} {ops : Array Oper} {o : Oper} {e : Env} {H : Heap} {out : Out PV} (hl : listO o.op = false) (h : opVal P C es rc ops e o H = some out) : LO o = none := by
  unfold opVal at h
  cases hL : LO o with
  | none => rfl
  | some nw =>
    rw [hL] at h
    obtain ⟨dst, op, ty, pos, after, guard⟩ := o
    cases op <;> first | (exact (u00 (H := H) h).elim) | (cases hl; done) | skip
    rename_i cl
    obtain ⟨callee, args, tys⟩ := cl
    cases callee with
    | builtin b => cases b <;> first | (exact (u00 (H := H) h).elim) | (cases hl; done)
    | _ => exact (u00 (H := H) h).elim
theorem u27 {P : Program} {C : CallT} {es : Bool} {rc : Option (Option PV)} {ops : Array Oper} {o : Oper} {e : Env} (h : LO o = none) : opVal P C es rc ops e o = op0 P C es rc ops e o := by
  unfold opVal
  rw [h]
theorem u1e {P : Program} {C : CallT} {es : Bool} {rc : Option (Option PV)} {ops : Array Oper} {o : Oper} {e e' : Env} (hr : u05 o = false) (h : u1d (o.looksAt ops) e e') : gval P C es rc ops e o = gval P C es rc ops e' o := by
  unfold gval
  cases hg : o.guard with
  | none => exact u65 hr h
  | some jw =>
    obtain ⟨j, want⟩ := jw
    dsimp only
    cases hd : (ops[j]?).bind (·.dst) with
    | none => rfl
    | some d =>
      dsimp only
      rw [u65 hr h, h d (by unfold Oper.looksAt; rw [hg]; simp [hd])]
def setAll (e : Env) : List (Tmp × PV) → Env
  | [] => e
  | (t, v) :: r => setAll (e.set t v) r
def u0k (ops : Array Oper) (o : Oper) (e : Env) (v : PV) : List (Tmp × PV) :=
  (match given ops o with
   | some (s, none) => [(s, strip (e.getD s .undef))]
   | some (s, some i) => [(s, tupDrop i (e.getD s .undef))]
   | none => []) ++ (match o.dst with | some d => [(d, v)] | none => [])
theorem u0h {rc : Option (Option PV)} {ops : Array Oper} {o : Oper} {e : Env} {v : PV} (hr : u05 o = false) : put rc ops e o v = setAll e (u0k ops o e v) := by
  unfold Pi.put took u0k giveUp
  rw [hr]
  simp only [Bool.false_and, cond_false]
  cases given ops o with
  | none => cases o.dst <;> rfl
  | some q =>
    obtain ⟨s, i⟩ := q
    cases i <;> cases o.dst <;> rfl
theorem u0f (e : Env) (l : List (Tmp × PV)) {t : Nat} (h : ∀ p ∈ l, p.1 ≠ t) : (setAll e l).getD t .undef = e.getD t .undef := by
  induction l generalizing e with
  | nil => rfl
  | cons p r ih =>
    obtain ⟨s, v⟩ := p
    show (setAll (e.set s v) r).getD t .undef = _
    rw [ih _ (fun q hq => h q (List.mem_cons_of_mem _ hq))]
    have := h (s, v) List.mem_cons_self
    simp only [List.getD_eq_getElem?_getD, List.getElem?_set_ne this]
theorem ufm (e : Env) (l : List (Tmp × PV)) {t : Nat} (v : PV) (h : ∀ p ∈ l, p.1 ≠ t) : setAll (e.set t v) l = (setAll e l).set t v := by
  induction l generalizing e with
  | nil => rfl
  | cons p r ih =>
    obtain ⟨s, u⟩ := p
    show setAll ((e.set t v).set s u) r = (setAll (e.set s u) r).set t v
    have hne : s ≠ t := h (s, u) List.mem_cons_self
    rw [List.set_comm _ _ (fun h => hne h.symm), ih _ (fun q hq => h q (List.mem_cons_of_mem _ hq))]
theorem u2q (e : Env) (a b : List (Tmp × PV)) (h : ∀ p ∈ a, ∀ q ∈ b, p.1 ≠ q.1) : setAll (setAll e a) b = setAll (setAll e b) a := by
  induction b generalizing e with
  | nil => rfl
  | cons q r ih =>
    obtain ⟨t, v⟩ := q
    show setAll ((setAll e a).set t v) r = setAll (setAll (e.set t v) r) a
    rw [← ufm e a v (fun p hp => h p hp (t, v) List.mem_cons_self)]
    exact ih _ (fun p hp q hq => h p hp q (List.mem_cons_of_mem _ hq))
theorem u0u (e : Env) (l : List (Tmp × PV)) : (setAll e l).length = e.length := by
  induction l generalizing e with
  | nil => rfl
  | cons p r ih => obtain ⟨t, v⟩ := p; show (setAll (e.set t v) r).length = _; rw [ih]; simp
theorem u09 {ops : Array Oper} {o : Oper} {e : Env} {v : PV} : ∀ p ∈ u0k ops o e v, p.1 ∈ u2x ops o := by
  intro p hp
  unfold u0k at hp
  unfold u2x u4p
  rcases List.mem_append.mp hp with h | h
  · refine List.mem_append_right _ ?_
    cases hg : given ops o with
    | none => rw [hg] at h; cases h
    | some q =>
      obtain ⟨s, i⟩ := q
      rw [hg] at h
      cases i <;> (simp only [List.mem_singleton] at h; subst h; exact List.mem_singleton.mpr rfl)
  · refine List.mem_append_left _ ?_
    cases hd : o.dst with
    | none => rw [hd] at h; cases h
    | some d => rw [hd] at h; simp only [List.mem_singleton] at h; subst h; simp
theorem udb {ops : Array Oper} {o : Oper} : ∀ t ∈ u4p ops o, t ∈ o.looksAt ops := by
  intro t ht
  unfold u4p at ht
  cases hg : given ops o with
  | none => rw [hg] at ht; cases ht
  | some q =>
    obtain ⟨s, i⟩ := q
    rw [hg] at ht
    simp only [List.mem_singleton] at ht
    subst ht
    refine List.mem_append_left _ (List.mem_filterMap.2 ⟨.tmp t, ?_, rfl⟩)
    obtain ⟨dst, op, ty, pos, after, guard⟩ := o
    unfold given at hg
    dsimp only at hg ⊢
    split at hg
    · revert hg
      cases moves ops _ <;> intro hg <;> simp [Op.operands] at hg ⊢
      exact hg.1.symm
    · revert hg
      cases moves ops _ <;> intro hg <;> simp [Op.operands] at hg ⊢
      exact hg.1.symm
    · simp [Op.operands] at hg ⊢
      exact .inr hg.1.symm
    · simp [Op.operands] at hg ⊢
      exact hg.1.symm
    · simp only [Option.map_eq_some_iff] at hg
      obtain ⟨⟨j, s⟩, hh, hs⟩ := hg
      have hps := u8i hh
      simp only [Prod.mk.injEq] at hs
      obtain ⟨rfl, _⟩ := hs
      simp only [Op.operands, Array.toList_map, hps]
      simp
    · revert hg
      cases fromB ops _ <;> intro hg <;> simp [Op.operands] at hg ⊢
      exact hg.1.symm
    · split at hg
      · rename_i args _ _ _ hargs
        simp at hg
        simp only [Op.operands, Call.operands]
        have := Array.mem_of_getElem? hargs
        rw [hg.1] at this
        simpa using this
      · cases hg
    · cases hg
def StepN (c : Ctx) (ops : Array Oper) (H : Heap) (o : Oper) (e e' : Env) : Prop :=
  okDst c.rc.isSome c.prot e o.dst = true ∧ ∃ v, gval c.P c.C c.es c.rc ops e o H = some (.ok v H) ∧ e' = put c.rc ops e o v
def RunN (c : Ctx) (ops : Array Oper) (H : Heap) : List Nat → Env → Env → Prop
  | [], e, e' => e = e'
  | i :: r, e, e' => ∃ o e1, ops[i]? = some o ∧ StepN c ops H o e e1 ∧ RunN c ops H r e1 e'
variable {c : Ctx} {ops : Array Oper} {H : Heap}
theorem u0v {b : Bool} {pr : List Tmp} {e e' : Env} {d : Option Tmp} (hl : e.length = e'.length) (h : ∀ t, d = some t → e.getD t .undef = e'.getD t .undef) : okDst b pr e d = okDst b pr e' d := by
  cases d with
  | none => rfl
  | some t => unfold okDst; dsimp only; rw [h t rfl, hl]
theorem u0z {o : Oper} {e e' : Env} {v : PV} (h : u1d (o.looksAt ops) e e') : u0k ops o e v = u0k ops o e' v := by
  unfold u0k
  congr 1
  cases hg : given ops o with
  | none => rfl
  | some q =>
    obtain ⟨s, i⟩ := q
    have hs : s ∈ o.looksAt ops := udb s (by unfold u4p; rw [hg]; simp)
    cases i <;> (dsimp only; rw [h s hs])
theorem u23 {x y : Oper} (h : apartN ops x y = true) : (∀ t ∈ u2x ops x, t ∉ y.looksAt ops) ∧ (∀ t ∈ u2x ops x, t ∉ u2x ops y) ∧ ∀ t ∈ u2x ops y, t ∉ x.looksAt ops := by
  unfold apartN at h
  simp only [Bool.and_eq_true, List.all_eq_true, Bool.not_eq_true', List.contains_eq_mem, decide_eq_false_iff_not] at h
  exact ⟨fun t ht => (h.1 t ht).1, fun t ht => (h.1 t ht).2, fun t ht => h.2 t ht⟩
theorem exSwap {x y : Oper} {e : Env} {v u : PV} {H1 H2 : Heap} (hp : exPair x y = true) (g1 : gval c.P c.C c.es c.rc ops e x H = some (.ok v H1)) (g2 : gval c.P c.C c.es c.rc ops (put c.rc ops e x v) y H1 = some (.ok u H2))
    (k1 : okDst c.rc.isSome c.prot e x.dst = true) (k2 : okDst c.rc.isSome c.prot (put c.rc ops e x v) y.dst = true) :
    H1 = H ∧ H2 = H ∧ okDst c.rc.isSome c.prot e y.dst = true ∧ okDst c.rc.isSome c.prot (put c.rc ops e y u) x.dst = true ∧ (∀ K, gval c.P c.C c.es c.rc ops e y K = some (.ok u K)) ∧ (∀ K, gval c.P c.C c.es c.rc ops (put c.rc ops e y u) x K = some (.ok v K)) ∧
      put c.rc ops (put c.rc ops e y u) x v = put c.rc ops (put c.rc ops e x v) y u ∧ (∀ e, touch e x = .no) ∧ (∀ e, touch e y = .no) := by
  obtain ⟨dx, ox, tx, sx, ax, gx⟩ := x
  obtain ⟨dy, oy, ty, sy, ay, gy⟩ := y
  unfold exPair at hp
  split at hp
  · rename_i s i t j a b e1 e2 e3 e4
    dsimp only at e1 e2 e3 e4
    subst e1 e2 e3 e4
    simp only [Bool.and_eq_true, beq_iff_eq, bne_iff_ne, ne_eq, Option.isNone_iff_eq_none] at hp
    obtain ⟨rfl, hij, hab, has, hbs, rfl, rfl⟩ := hp
    have px : ∀ (e : Env) (w : PV), put c.rc ops e ⟨some a, .extract (.tmp s) i, tx, sx, ax, none⟩ w = (e.set s (tupDrop i (e.getD s .undef))).set a w := by
      intro e w
      unfold Pi.put took
      simp [u05, given, giveUp, putDst]
    have py : ∀ (e : Env) (w : PV), put c.rc ops e ⟨some b, .extract (.tmp s) j, ty, sy, ay, none⟩ w = (e.set s (tupDrop j (e.getD s .undef))).set b w := by
      intro e w
      unfold Pi.put took
      simp [u05, given, giveUp, putDst]
    have gx : ∀ (e : Env), gval c.P c.C c.es c.rc ops e ⟨some a, .extract (.tmp s) i, tx, sx, ax, none⟩ = ex i (e.getD s .undef) := fun e => rfl
    have gy : ∀ (e : Env), gval c.P c.C c.es c.rc ops e ⟨some b, .extract (.tmp s) j, ty, sy, ay, none⟩ = ex j (e.getD s .undef) := fun e => rfl
    rw [gx] at g1
    rw [gy, px] at g2
    rw [px] at k2
    have hsl : s < e.length := by
      refine Nat.lt_of_not_le fun hle => ?_
      rw [List.getD_eq_getElem?_getD, List.getElem?_eq_none hle] at g1
      exact (u00 (H := H) g1).elim
    have hs1 : (((e.set s (tupDrop i (e.getD s .undef))).set a v).getD s .undef) = tupDrop i (e.getD s .undef) := by
      rw [List.getD_eq_getElem?_getD, List.getElem?_set_ne has, List.getElem?_set_self hsl]; rfl
    rw [hs1] at g2
    generalize hes : e.getD s .undef = es at *
    cases es with
    | tup vs =>
      unfold ex at g1
      dsimp only at g1
      have g2 : (match (vs.set i (stripC (vs.getD i .undef)))[j]? with | some v => M.pure v | none => M.fail) H1 = some (.ok u H2) := g2
      rw [List.getElem?_set_ne hij] at g2
      cases hvi : vs[i]? with
      | none => rw [hvi] at g1; exact (u00 (H := H) g1).elim
      | some vi =>
        rw [hvi] at g1
        cases hvj : vs[j]? with
        | none => rw [hvj] at g2; exact (u00 (H := H1) g2).elim
        | some vj =>
          rw [hvj] at g2
          simp only [M.pure, Option.some.injEq, Out.ok.injEq] at g1 g2
          obtain ⟨rfl, rfl⟩ := g1
          obtain ⟨rfl, rfl⟩ := g2
          have hlen1 : ∀ w w' : PV, ((e.set s w).set a w').length = e.length := by simp
          refine ⟨rfl, rfl, ?_, ?_, fun K => ?_, fun K => ?_, ?_, fun _ => rfl, fun _ => rfl⟩
          · rw [← k2]
            refine u0v (by simp) fun t ht => ?_
            cases ht
            simp only [List.getD_eq_getElem?_getD]
            rw [List.getElem?_set_ne hab, List.getElem?_set_ne (fun h => hbs h.symm)]
          · rw [← k1, py]
            refine u0v (by simp) fun t ht => ?_
            cases ht
            simp only [List.getD_eq_getElem?_getD]
            rw [List.getElem?_set_ne (fun h => hab h.symm), List.getElem?_set_ne (fun h => has h.symm)]
          · rw [gy, hes]
            show (match vs[j]? with | some v => M.pure v | none => M.fail) K = _
            rw [hvj]; rfl
          · rw [gx, py, hes]
            have : (((e.set s (tupDrop j (.tup vs))).set b vj).getD s .undef) = tupDrop j (.tup vs) := by
              rw [List.getD_eq_getElem?_getD, List.getElem?_set_ne hbs, List.getElem?_set_self hsl]; rfl
            rw [this]
            show (match (vs.set j (stripC (vs.getD j .undef)))[i]? with | some v => M.pure v | none => M.fail) K = _
            rw [List.getElem?_set_ne (fun h => hij h.symm), hvi]; rfl
          · rw [px, py, px, py, hes, hs1]
            have hs2 : (((e.set s (tupDrop j (.tup vs))).set b vj).getD s .undef) = tupDrop j (.tup vs) := by
              rw [List.getD_eq_getElem?_getD, List.getElem?_set_ne hbs, List.getElem?_set_self hsl]; rfl
            rw [hs2]
            have ht : tupDrop i (tupDrop j (.tup vs)) = tupDrop j (tupDrop i (.tup vs)) := by
              simp only [tupDrop, List.getD_eq_getElem?_getD, PV.tup.injEq]
              rw [List.getElem?_set_ne (fun h => hij h.symm), List.getElem?_set_ne hij, List.set_comm _ _ hij]
            rw [ht]
            rw [List.set_comm (l := e.set s (tupDrop j (.tup vs))) _ _ hbs, List.set_set, List.set_comm (l := e.set s (tupDrop i (.tup vs))) _ _ has, List.set_set, List.set_comm _ _ hab]
    | _ => exact (u00 (H := H) g1).elim
  · cases hp
theorem swapN {x y : Oper} {e e1 e2 : Env} (hx : u05 x = false) (hy : u05 y = false) (ha : apartN ops x y = true) (h1 : StepN c ops H x e e1) (h2 : StepN c ops H y e1 e2) :
    ∃ e1', StepN c ops H y e e1' ∧ StepN c ops H x e1' e2 := by
  obtain ⟨a1, a2, a3⟩ := u23 ha
  obtain ⟨k1, v, g1, rfl⟩ := h1
  obtain ⟨k2, u, g2, rfl⟩ := h2
  rw [u0h hx] at k2 g2 ⊢
  rw [u0h hy]
  have agY : u1d (y.looksAt ops) (setAll e (u0k ops x e v)) e := fun t ht => u0f e _ fun p hp he => a1 p.1 (u09 p hp) (he ▸ ht)
  have agX : u1d (x.looksAt ops) (setAll e (u0k ops y e u)) e := fun t ht => u0f e _ fun p hp he => a3 p.1 (u09 p hp) (he ▸ ht)
  refine ⟨setAll e (u0k ops y e u), ⟨?_, u, ?_, (u0h hy).symm⟩, ?_, v, ?_, ?_⟩
  · rw [← k2]
    refine u0v (by rw [u0u]) fun t ht => (u0f e _ fun p hp he => ?_).symm
    refine a2 p.1 (u09 p hp) ?_
    rw [he]
    exact List.mem_append_left _ (by rw [ht]; simp)
  · rw [← g2]
    exact congrFun (u1e hy agY).symm H
  · rw [← k1]
    refine u0v (by rw [u0u]) fun t ht => u0f e _ fun p hp he => ?_
    refine a2 t (List.mem_append_left _ (by rw [ht]; simp)) ?_
    rw [← he]
    exact u09 p hp
  · rw [← g1]
    exact congrFun (u1e hx agX) H
  · rw [u0h hx, u0z agX, u0z agY]
    exact u2q e _ _ fun p hp q hq he => a2 p.1 (u09 p hp) (he ▸ u09 q hq)
theorem swapE {x y : Oper} {e e1 e2 : Env} (hx : u05 x = false) (hy : u05 y = false) (ha : apartE ops x y = true) (h1 : StepN c ops H x e e1) (h2 : StepN c ops H y e1 e2) :
    ∃ e1', StepN c ops H y e e1' ∧ StepN c ops H x e1' e2 := by
  unfold apartE at ha
  rw [Bool.or_eq_true] at ha
  rcases ha with ha | ha
  · exact swapN hx hy ha h1 h2
  · obtain ⟨k1, v, g1, rfl⟩ := h1
    obtain ⟨k2, u, g2, rfl⟩ := h2
    obtain ⟨_, _, q1, q2, q3, q4, q5, _⟩ := exSwap ha g1 g2 k1 k2
    exact ⟨_, ⟨q1, u, q3 H, rfl⟩, q2, v, q4 H, q5.symm⟩
theorem frontN {i : Nat} {oi : Oper} (hi : ops[i]? = some oi) (hri : u05 oi = false) (hr : ∀ (j : Nat) (o : Oper), ops[j]? = some o → u05 o = false) : ∀ (A B : List Nat) (e e' : Env),
    (∀ a ∈ A, ∀ oa, ops[a]? = some oa → apartE ops oa oi = true) → RunN c ops H (A ++ i :: B) e e' → RunN c ops H (i :: (A ++ B)) e e'
  | [], B, e, e', ha, h => h
  | a :: A, B, e, e', ha, h => by
    obtain ⟨oa, e1, hoa, hs, hrun⟩ := h
    obtain ⟨o, e2, ho, hs2, hrun2⟩ := frontN hi hri hr A B e1 e' (fun b hb => ha b (List.mem_cons_of_mem _ hb)) hrun
    rw [hi] at ho
    cases ho
    obtain ⟨e1', s1, s2⟩ := swapE (hr a oa hoa) hri (ha a List.mem_cons_self oa hoa) hs hs2
    exact ⟨oi, e1', hi, s1, oa, e2, hoa, s2, hrun2⟩
theorem ufq (acc : List Nat) (o : Oper) (i : Nat) (h : (maskB acc o).testBit i = true) : ∃ e ∈ o.after.toList, Region.binds .any e = true ∧ (i = e.on ∨ (acc.getD e.on 0).testBit i = true) := by
  have key : ∀ (l : List Edge) (s : Nat), (l.foldl (fun s e => bif Region.binds .any e then s ||| (2 ^ e.on ||| acc.getD e.on 0) else s) s).testBit i = true →
      s.testBit i = true ∨ ∃ e ∈ l, Region.binds .any e = true ∧ (i = e.on ∨ (acc.getD e.on 0).testBit i = true) := by
    intro l
    induction l with
    | nil => exact fun s h => .inl h
    | cons e r ih =>
      intro s h
      rcases ih _ h with h1 | ⟨q, hq, h2⟩
      · dsimp only at h1
        cases hb : Region.binds .any e with
        | false => rw [hb] at h1; exact .inl h1
        | true =>
          rw [hb] at h1
          simp only [cond_true, Nat.testBit_or, Bool.or_eq_true] at h1
          rcases h1 with h1 | h1 | h1
          · exact .inl h1
          · refine .inr ⟨e, List.mem_cons_self, hb, .inl ?_⟩
            rw [Nat.testBit_two_pow] at h1
            have h2 : e.on = i := by simpa using h1
            exact h2.symm
          · exact .inr ⟨e, List.mem_cons_self, hb, .inr h1⟩
      · exact .inr ⟨q, List.mem_cons_of_mem _ hq, h2⟩
  rcases key _ _ h with h1 | h1
  · simp at h1
  · exact h1
theorem uag : ∀ (l : List Oper) (pre : List Oper) (acc : List Nat), acc.length = pre.length →
    (∀ (j : Nat) (o : Oper) (i : Nat), pre[j]? = some o → (acc.getD j 0).testBit i = true → ∃ e ∈ o.after.toList, Region.binds .any e = true ∧ (i = e.on ∨ (acc.getD e.on 0).testBit i = true)) →
    ∀ (j : Nat) (o : Oper) (i : Nat), (pre ++ l)[j]? = some o → ((befs l acc).getD j 0).testBit i = true → ∃ e ∈ o.after.toList, Region.binds .any e = true ∧ (i = e.on ∨ ((befs l acc).getD e.on 0).testBit i = true)
  | [], pre, acc, hl, h, j, o, i, ho, hb => by
    rw [List.append_nil] at ho
    exact h j o i ho hb
  | q :: r, pre, acc, hl, h, j, o, i, ho, hb => by
    refine uag r (pre ++ [q]) (acc ++ [maskB acc q]) (by simp [hl]) (fun j o i ho hb => ?_) j o i (by simpa using ho) hb
    have mono : ∀ k, (acc.getD k 0).testBit i = true → ((acc ++ [maskB acc q]).getD k 0).testBit i = true := by
      intro k hk
      rw [List.getD_eq_getElem?_getD] at hk ⊢
      by_cases hlt : k < acc.length
      · rw [List.getElem?_append_left hlt]; exact hk
      · rw [List.getElem?_eq_none (by omega)] at hk
        simp at hk
    by_cases hj : j < pre.length
    · rw [List.getElem?_append_left hj] at ho
      rw [List.getD_eq_getElem?_getD, List.getElem?_append_left (by omega), ← List.getD_eq_getElem?_getD] at hb
      obtain ⟨e, he, h1, h2⟩ := h j o i ho hb
      exact ⟨e, he, h1, h2.imp id (mono _)⟩
    · rw [List.getElem?_append_right (by omega)] at ho
      have : j - pre.length = 0 := by
        have := (List.getElem?_eq_some_iff.mp ho).1
        simp at this
        omega
      rw [this] at ho
      cases ho
      have hje : j = acc.length := by omega
      subst hje
      rw [List.getD_eq_getElem?_getD, List.getElem?_append_right (Nat.le_refl _)] at hb
      simp at hb
      obtain ⟨e, he, h1, h2⟩ := ufq acc q i hb
      exact ⟨e, he, h1, h2.imp id (mono _)⟩
theorem u0o (h : commB ops = true) {j : Nat} {y : Oper} (hj : ops[j]? = some y) : u05 y = false ∧ ub5 y = false ∧ (∀ e ∈ y.after.toList, Region.binds .any e = true → e.on < j) ∧
    ∀ (i : Nat) (x : Oper), i < j → ops[i]? = some x → ((befs ops.toList []).getD j 0).testBit i = true ∨ apartE ops x y = true := by
  have hlt : j < ops.size := (Array.getElem?_eq_some_iff.mp hj).1
  have h1 := List.all_eq_true.mp h j (List.mem_range.mpr hlt)
  rw [hj] at h1
  simp only [Bool.and_eq_true, Bool.not_eq_true', List.all_eq_true, Bool.or_eq_true, decide_eq_true_eq] at h1
  refine ⟨h1.1, h1.2.1, fun e he hb => ?_, fun i x hi hx => ?_⟩
  · rcases h1.2.2.1 e he with h2 | h2
    · rw [hb] at h2; cases h2
    · exact h2
  · rcases h1.2.2.2 i (List.mem_range.mpr hi) with h2 | h2
    · exact .inl h2
    · rw [hx] at h2; exact .inr h2
theorem ujl {j : Nat} {o : Oper} {i : Nat} (hj : ops[j]? = some o) (hb : ((befs ops.toList []).getD j 0).testBit i = true) :
    ∃ e ∈ o.after.toList, Region.binds .any e = true ∧ (i = e.on ∨ ((befs ops.toList []).getD e.on 0).testBit i = true) :=
  uag ops.toList [] [] rfl (fun j o i h => by simp at h) j o i (by simpa using hj) hb
def restOf (ops : Array Oper) (listed : Array Bool) : List Nat := (List.range ops.size).filter fun i => !listed.getD i true
theorem udj {listed : Array Bool} {i : Nat} (hs : listed.size = ops.size) (hi : i < ops.size) : restOf ops (listed.setIfInBounds i true) = (restOf ops listed).filter (fun k => decide (k ≠ i)) := by
  unfold restOf
  rw [List.filter_filter]
  refine List.filter_congr fun k hk => ?_
  by_cases h : k = i
  · subst h
    simp [Array.getD_eq_getD_getElem?, Array.getElem?_setIfInBounds_self_of_lt (by omega : k < listed.size)]
  · simp [Array.getD_eq_getD_getElem?, Array.getElem?_setIfInBounds_ne (fun e => h e.symm), h]
theorem ubg {i : Nat} {l : List Nat} (hn : l.Nodup) (hi : i ∈ l) : ∃ A B, l = A ++ i :: B ∧ l.filter (fun k => decide (k ≠ i)) = A ++ B := by
  obtain ⟨A, B, rfl⟩ := List.append_of_mem hi
  refine ⟨A, B, rfl, ?_⟩
  rw [List.nodup_append] at hn
  obtain ⟨h1, h2, h3⟩ := hn
  rw [List.filter_append, List.filter_cons]
  simp only [ne_eq, not_true_eq_false, decide_false, Bool.false_eq_true, if_false]
  congr 1
  · exact List.filter_eq_self.mpr fun a ha => by simpa using h3 a ha i List.mem_cons_self
  · refine List.filter_eq_self.mpr fun a ha => ?_
    have := (List.nodup_cons.mp h2).1
    have : a ≠ i := fun e => this (e ▸ ha)
    simpa using this
theorem ugl {k : Env → M PV} {out : Out PV} : ∀ (l : List Oper) (i : Nat) (env : Env), (∀ j, l[j]? = ops[i + j]?) → dOpsN c ops l env k H = some out → ∃ e', RunN c ops H (List.range' i l.length) env e' ∧ k e' H = some out
  | [], i, env, hl, h => ⟨env, rfl, h⟩
  | o :: r, i, env, hl, h => by
    rw [u3z] at h
    obtain ⟨hok, h⟩ := u02 h
    obtain ⟨v, h1, h2⟩ := nb_some.mp h
    obtain ⟨e', hr, hk⟩ := ugl r (i + 1) _ (fun j => by
      have := hl (j + 1)
      rw [List.getElem?_cons_succ] at this
      rw [this]
      congr 1
      omega) h2
    have ho : ops[i]? = some o := by
      have := hl 0
      simpa using this.symm
    exact ⟨e', ⟨o, _, ho, ⟨hok, v, h1, rfl⟩, hr⟩, hk⟩
variable {CDN : Option PV → CallT} {Q : Exit → Act → World → Prop} {g0 : G} {w0 : World}
theorem u7v (hC : CSound c.P c.es c.C) (hcm : commB ops = true) {Δ : List Dfr} {R : List Nat → Env → Heap → Prop} {PQ : PV → Heap → Prop}
    (hfront : ∀ (A : List Nat) (i : Nat) (B : List Nat) (oi : Oper) (e : Env) (H : Heap), ops[i]? = some oi → (∀ a ∈ A, ∀ oa, ops[a]? = some oa → apartE ops oa oi = true) → (∀ k ∈ A ++ B, ((befs ops.toList []).getD i 0).testBit k = false) → R (A ++ i :: B) e H →
      okDst c.rc.isSome c.prot e oi.dst = true ∧ ∃ o1, gval c.P c.C c.es c.rc ops e oi H = some o1 ∧ (∀ v H1, o1 = .ok v H1 → R (A ++ B) (put c.rc ops e oi v) H1) ∧ ∀ v H1, o1 = .pan v H1 → PQ v H1)
    (hleaf : ∀ e H g a w, R [] e H → Glob g0 w0 g w → Sta c g H e a w Δ → Q .normal a w)
    (hpan : ∀ v H g e a w cv, PQ v H → Glob g0 w0 g w → Sta c g H e a w Δ → Rep g.io g.im v cv → Q (.panic [{ v := cv, recovered := false }]) a w) :
    ∀ (fuel : Nat) (listed : Array Bool) (env : Env) (H : Heap) (a : Act) (w : World) (g : G), listed.size = ops.size → (restOf ops listed).length ≤ fuel →
      (∀ (j i : Nat), j < ops.size → listed.getD j true = true → ((befs ops.toList []).getD j 0).testBit i = true → i < ops.size → listed.getD i true = true) →
      R (restOf ops listed) env H → Glob g0 w0 g w → Sta c g H env a w Δ → wpAny c.P .any ops Q fuel listed a w := by
  -- nothing ready: nothing left
  have empty : ∀ (listed : Array Bool), listed.size = ops.size → Region.ready .any ops listed = [] → restOf ops listed = [] := by
    intro listed hsz hr
    cases hrest : restOf ops listed with
    | nil => rfl
    | cons i r =>
      exfalso
      have hm : i ∈ restOf ops listed := by rw [hrest]; exact List.mem_cons_self
      have hm' := List.mem_filter.mp hm
      have hlt : i < ops.size := List.mem_range.mp hm'.1
      have hsorted : (restOf ops listed).Pairwise (· < ·) := List.pairwise_lt_range.filter _
      have hmin : ∀ k, k < i → listed.getD k true = true := by
        intro k hk
        cases hlk : listed.getD k true with
        | true => rfl
        | false =>
          exfalso
          have : k ∈ restOf ops listed := List.mem_filter.mpr ⟨List.mem_range.mpr (by omega), by rw [hlk]; rfl⟩
          rw [hrest] at this hsorted
          rcases List.mem_cons.mp this with h | h
          · omega
          · have := (List.pairwise_cons.mp hsorted).1 k h
            omega
      have hready : i ∈ Region.ready .any ops listed := by
        unfold Region.ready
        refine List.mem_filter.mpr ⟨List.mem_range.mpr hlt, ?_⟩
        rw [Bool.and_eq_true]
        refine ⟨hm'.2, ?_⟩
        rw [Array.getElem?_eq_getElem hlt]
        simp only [Option.map_some, Option.getD_some]
        rw [Array.all_eq_true']
        intro e he
        rw [Bool.or_eq_true]
        cases hb : Region.binds .any e with
        | false => exact .inl rfl
        | true =>
          have h1 := (u0o hcm (Array.getElem?_eq_getElem hlt)).2.2.1 e (by simpa using he) hb
          have h2 := hmin e.on h1
          refine .inr ?_
          rw [Array.getD_eq_getD_getElem?] at h2 ⊢
          rw [Array.getElem?_eq_getElem (by omega : e.on < listed.size)] at h2 ⊢
          exact h2
      rw [hr] at hready
      cases hready
  intro fuel
  induction fuel with
  | zero =>
    intro listed env H a w g hsz hlen hdc hrun hgl hS
    have h0 : restOf ops listed = [] := List.eq_nil_of_length_eq_zero (by omega)
    rw [h0] at hrun
    refine ⟨?_, hleaf env H g a w hrun hgl hS⟩
    unfold restOf at h0
    unfold Region.ready
    refine List.filter_eq_nil_iff.mpr fun i hi => ?_
    have := List.filter_eq_nil_iff.mp h0 i hi
    simp only [Bool.and_eq_true, not_and] at this ⊢
    exact fun h => absurd h this
  | succ fuel ih =>
    intro listed env H a w g hsz hlen hdc hrun hgl hS
    refine ⟨fun h0 => ?_, fun i hi => ?_⟩
    · rw [empty listed hsz h0] at hrun
      exact hleaf env H g a w hrun hgl hS
    · have hi' := List.mem_filter.mp hi
      have hlt : i < ops.size := List.mem_range.mp hi'.1
      have hi2 := hi'.2
      rw [Bool.and_eq_true] at hi2
      obtain ⟨hun, hedges⟩ := hi2
      have hoi : ops[i]? = some ops[i] := Array.getElem?_eq_getElem hlt
      have hmem : i ∈ restOf ops listed := List.mem_filter.mpr ⟨List.mem_range.mpr hlt, hun⟩
      have hnd : (restOf ops listed).Nodup := List.nodup_range.filter _
      obtain ⟨A, B, hAB, hfil⟩ := ubg hnd hmem
      have hedge : ∀ e ∈ ops[i].after.toList, Region.binds .any e = true → listed.getD e.on true = true := by
        intro e he hb
        rw [hoi] at hedges
        simp only [Option.map_some, Option.getD_some] at hedges
        rw [Array.all_eq_true'] at hedges
        have := hedges e (by simpa using he)
        rw [hb] at this
        simp only [Bool.not_true, Bool.false_or] at this
        rw [Array.getD_eq_getD_getElem?] at this ⊢
        cases hq : listed[e.on]? with
        | none => rfl
        | some b => rw [hq] at this; exact this
      have hbef : ∀ k, ((befs ops.toList []).getD i 0).testBit k = true → k < ops.size → listed.getD k true = true := by
        intro k hk hks
        obtain ⟨e, he, hb, h1⟩ := ujl hoi hk
        have hel := hedge e he hb
        have hei := (u0o hcm hoi).2.2.1 e he hb
        rcases h1 with rfl | h1
        · exact hel
        · exact hdc e.on k (by omega) hel h1 hks
      rw [hAB] at hrun
      have happ : ∀ k ∈ A, ∀ ok, ops[k]? = some ok → apartE ops ok ops[i] = true := by
        intro k hk ok hok
        have hkm : k ∈ restOf ops listed := by rw [hAB]; exact List.mem_append_left _ hk
        have hkf := List.mem_filter.mp hkm
        have hsorted : (A ++ i :: B).Pairwise (· < ·) := by rw [← hAB]; exact List.pairwise_lt_range.filter _
        have hki : k < i := (List.pairwise_append.mp hsorted).2.2 k hk i List.mem_cons_self
        rcases (u0o hcm hoi).2.2.2 k ok hki hok with h1 | h1
        · have := hbef k h1 (by omega)
          rw [this] at hkf
          cases hkf.2
        · exact h1
      have hnb : ∀ k ∈ A ++ B, ((befs ops.toList []).getD i 0).testBit k = false := by
        intro k hk
        cases hb : ((befs ops.toList []).getD i 0).testBit k with
        | false => rfl
        | true =>
          exfalso
          have hkm : k ∈ restOf ops listed := by
            rw [hAB]
            rcases List.mem_append.mp hk with h | h
            · exact List.mem_append_left _ h
            · exact List.mem_append_right _ (List.mem_cons_of_mem _ h)
          have hkf := List.mem_filter.mp hkm
          have := hbef k hb (List.mem_range.mp hkf.1)
          rw [this] at hkf
          cases hkf.2
      obtain ⟨hok, o1, hg, hrun2, hpq⟩ := hfront A i B ops[i] env H hoi happ hnb hrun
      have hst := ud4 (Q := Q) (next := wpAny c.P .any ops Q fuel (listed.setIfInBounds i true)) hC (.inr (u0o hcm hoi).1) hS hok hg (fun v' H1 g' a' w' he hgl' hS' => by
        have hrun2 := hrun2 v' H1 he
        refine ih _ _ _ a' w' g' (by simpa using hsz) ?_ ?_ ?_ (hgl.trans hgl') hS'
        · rw [udj hsz hlt, hfil]
          rw [hAB] at hlen
          simp only [List.length_append, List.length_cons] at hlen ⊢
          omega
        · intro j k hj hl hb hk
          rw [Array.getD_eq_getD_getElem?] at hl ⊢
          by_cases hki : k = i
          · subst hki
            rw [Array.getElem?_setIfInBounds_self_of_lt (by omega)]
            rfl
          · rw [Array.getElem?_setIfInBounds_ne (fun e => hki e.symm), ← Array.getD_eq_getD_getElem?]
            by_cases hji : j = i
            · subst hji
              exact hbef k hb hk
            · rw [Array.getElem?_setIfInBounds_ne (fun e => hji e.symm), ← Array.getD_eq_getD_getElem?] at hl
              exact hdc j k hj hl hb hk
        · rw [udj hsz hlt, hfil]
          exact hrun2) (fun v' H1 g' w' cv he hgl' hS' hr' => hpan v' H1 g' env a w' cv (hpq v' H1 he) (hgl.trans hgl') hS' hr')
      unfold wpOp
      rw [hoi]
      dsimp only
      split
      · rename_i hw
        rw [if_pos hw] at hst
        exact .inl hst
      · rename_i hw
        rw [if_neg hw] at hst
        exact hst
theorem u2n (hC : CSound c.P c.es c.C) (hcm : commB ops = true) {Δ : List Dfr} {R : List Nat → Env → Heap → Prop}
    (hfront : ∀ (A : List Nat) (i : Nat) (B : List Nat) (oi : Oper) (e : Env) (H : Heap), ops[i]? = some oi → (∀ a ∈ A, ∀ oa, ops[a]? = some oa → apartE ops oa oi = true) → (∀ k ∈ A ++ B, ((befs ops.toList []).getD i 0).testBit k = false) → R (A ++ i :: B) e H →
      okDst c.rc.isSome c.prot e oi.dst = true ∧ ∃ v H1, gval c.P c.C c.es c.rc ops e oi H = some (.ok v H1) ∧ R (A ++ B) (put c.rc ops e oi v) H1)
    (hleaf : ∀ e H g a w, R [] e H → Glob g0 w0 g w → Sta c g H e a w Δ → Q .normal a w) :
    ∀ (fuel : Nat) (listed : Array Bool) (env : Env) (H : Heap) (a : Act) (w : World) (g : G), listed.size = ops.size → (restOf ops listed).length ≤ fuel →
      (∀ (j i : Nat), j < ops.size → listed.getD j true = true → ((befs ops.toList []).getD j 0).testBit i = true → i < ops.size → listed.getD i true = true) →
      R (restOf ops listed) env H → Glob g0 w0 g w → Sta c g H env a w Δ → wpAny c.P .any ops Q fuel listed a w :=
  u7v hC hcm (PQ := fun _ _ => False) (fun A i B oi e H h1 h2 h3 h4 => by
    obtain ⟨k1, v, H1, k2, k3⟩ := hfront A i B oi e H h1 h2 h3 h4
    exact ⟨k1, _, k2, fun v' H' he => by cases he; exact k3, fun v' H' he => by cases he⟩) hleaf (fun _ _ _ _ _ _ _ h => h.elim)
theorem uiu (hC : CSound c.P c.es c.C) (hcm : commB ops = true) {e' : Env} {Δ : List Dfr} (hleaf : ∀ g a w, Glob g0 w0 g w → Sta c g H e' a w Δ → Q .normal a w) :
    ∀ (fuel : Nat) (listed : Array Bool) (env : Env) (a : Act) (w : World) (g : G), listed.size = ops.size → (restOf ops listed).length ≤ fuel →
      (∀ (j i : Nat), j < ops.size → listed.getD j true = true → ((befs ops.toList []).getD j 0).testBit i = true → i < ops.size → listed.getD i true = true) →
      RunN c ops H (restOf ops listed) env e' → Glob g0 w0 g w → Sta c g H env a w Δ → wpAny c.P .any ops Q fuel listed a w :=
  fun fuel listed env a w g h1 h2 h3 h4 h5 h6 => u2n hC hcm (R := fun l e K => K = H ∧ RunN c ops H l e e')
    (fun A i B oi e K hi ha _ hr => by
      obtain ⟨rfl, hr⟩ := hr
      obtain ⟨o, e1, ho, ⟨hok, v, hg, rfl⟩, hrun2⟩ := frontN hi (u0o hcm hi).1 (fun j o hj => (u0o hcm hj).1) A B e e' ha hr
      rw [hi] at ho
      cases ho
      exact ⟨hok, v, K, hg, rfl, hrun2⟩)
    (fun e K g a w hr hgl hS => by
      obtain ⟨rfl, hr⟩ := hr
      have he : e = e' := hr
      subst he
      exact hleaf g a w hgl hS) fuel listed env H a w g h1 h2 h3 ⟨rfl, h4⟩ h5 h6
def agreeT (τ : Touch) (H K : Heap) : Prop :=
  match τ with
  | .no => True
  | .ld i => K[i]? = H[i]?
  | .st i => K[i]? = H[i]?
  | .any => K = H
  | .al n => K.length = H.length
def EffW (τ : Touch) (f : Heap → Heap) : Prop := f = (fun K => K) ∨ ∃ i b, τ = .st i ∧ f = fun K => K.set i b
def StepW (c : Ctx) (ops : Array Oper) (H : Heap) (o : Oper) (e e' : Env) (H' : Heap) : Prop :=
  okDst c.rc.isSome c.prot e o.dst = true ∧ quietO o = true ∧ ∃ v, gval c.P c.C c.es c.rc ops e o H = some (.ok v H') ∧ e' = put c.rc ops e o v ∧ (u0e o = false → H' = H)
def hfree {α : Type} (m : M α) : Prop := ∀ (H H' : Heap) (v : α), m H = some (.ok v H') → H' = H ∧ ∀ K, m K = some (.ok v K)
theorem u03 {α : Type} (v : α) : hfree (M.pure v) := by
  intro H H' u h
  simp only [M.pure, Option.some.injEq, Out.ok.injEq] at h
  obtain ⟨rfl, rfl⟩ := h
  exact ⟨rfl, fun K => rfl⟩
theorem u04 {α : Type} : hfree (M.fail : M α) := fun H H' u h => (u00 (H := H) h).elim
theorem uir {α : Type} (v : PV) : hfree (M.pan v : M α) := fun H H' u h => by
  simp only [M.pan, Option.some.injEq] at h
  cases h
theorem u0j {α : Type} {b : Bool} {m : M α} (h : hfree m) : hfree (guardM b m) := by
  cases b
  · exact u04
  · exact h
theorem ujr {τ : Touch} {m : M PV} (hm : hfree m) {H H' : Heap} {v : PV} (h : m H = some (.ok v H')) : ∃ f, EffW τ f ∧ H' = f H ∧ ∀ K, agreeT τ H K → m K = some (.ok v (f K)) :=
  ⟨fun K => K, .inl rfl, (hm H H' v h).1, fun K _ => (hm H H' v h).2 K⟩
theorem uj7 (off : Nat) (x : PV) : hfree (fa off x) := by cases x <;> first | exact u03 _ | exact u04
theorem uka (i : Nat) (x : PV) : hfree (ex i x) := by
  cases x <;> first | exact u04 | skip
  rename_i vs
  show hfree (match vs[i]? with | some v => M.pure v | none => M.fail)
  cases vs[i]? <;> first | exact u03 _ | exact u04
theorem ujc (P : Program) (x : PV) : hfree (nc P x) := by cases x <;> first | exact u03 _ | exact u04 | exact uir _
theorem u0c {α : Type} {b : Bool} {x y : M α} (hx : hfree x) (hy : hfree y) : hfree (bif b then x else y) := by cases b <;> assumption
theorem udq (off : Nat) (n : Option Nat) (x : PV) : hfree (fd off n x) := by
  unfold fd
  repeat' (first | exact u03 _ | exact u04 | refine u0c ?_ ?_ | split)
theorem uja (t : TypeId) (z : PV) (b : Bool) (x : PV) : hfree (ta t z b x) := by
  cases x <;> first | exact u04 | skip
  · rename_i s v
    show hfree (bif s == t then M.pure _ else bif b then M.pure _ else M.fail)
    cases s == t <;> cases b <;> first | exact u03 _ | exact u04
  · show hfree (bif b then M.pure _ else M.fail)
    cases b <;> first | exact u03 _ | exact u04
theorem u6h (op : BinOp) (k : IntKind) (a b : Int) : hfree (intOp op k a b) := by
  cases op <;> (unfold intOp; dsimp only) <;> repeat' (first | exact u03 _ | exact u04 | refine u0c ?_ ?_)
theorem ucq (op : BinOp) (a b : ByteArray) : hfree (strOp op a b) := by
  cases op <;> (unfold strOp; dsimp only) <;> repeat' (first | exact u03 _ | exact u04 | refine u0c ?_ ?_)
theorem ukc (op : BinOp) (ek : EqK) (x y : PV) : hfree (bi op ek x y) := by
  unfold bi
  split <;> repeat' (first | exact u03 _ | exact u04 | exact u6h _ _ _ _ | exact ucq _ _ _ | refine u0c ?_ ?_ | split)
theorem uiy (op : UnOp) (x : PV) : hfree (un op x) := by
  unfold un
  split <;> first | exact u03 _ | exact u04 | exact u6h _ _ _ _
theorem uj3 (k : Cv) (own : Bool) (x : PV) : hfree (cv k own x) := by
  unfold cv
  split <;> repeat' (first | exact u03 _ | exact u04 | split)
theorem uff (c a b : PV) : hfree (pick c a b) := by
  unfold pick
  split <;> first | exact u03 _ | exact u04
theorem uk3 (t : TypeId) (v : PV) : hfree (mi t v) := by
  unfold mi
  exact u0c (u03 _) u04
theorem u98 (z : List PV) (ps : List (Nat × Nat × PV)) : hfree (bd z ps) := by
  unfold bd
  split <;> first | exact u03 _ | exact u04
theorem ugc (z : List PV) (o n : Nat) (v : PV) : hfree (bdO z o n v) := by
  unfold bdO
  split
  · exact u0c (u03 _) u04
  · exact u98 _ _
theorem uk7 (own : Bool) (a : Option Nat) (vs : List PV) : hfree (bs own a vs) := by
  unfold bs
  exact u0c (u03 _) u04
theorem ukf (own : Bool) (sz b : Nat) (l c : PV) : hfree (mk own sz b l c) := by
  unfold mk
  split <;> repeat' (first | exact u03 _ | exact u04 | refine u0c ?_ ?_)
theorem uhp (len sz : Nat) (a i : PV) : hfree (iaA len sz a i) := by
  unfold iaA u0p
  split <;> repeat' (first | exact u03 _ | exact u04 | refine u0c ?_ ?_)
theorem uhu (sz : Nat) (a i : PV) : hfree (iaS sz a i) := by
  unfold iaS u0p
  split <;> repeat' (first | exact u03 _ | exact u04 | refine u0c ?_ ?_ | split)
theorem ufz (a i : PV) : hfree (ixS a i) := by
  unfold ixS u0p
  split <;> repeat' (first | exact u03 _ | exact u04 | refine u0c ?_ ?_ | split)
theorem uhv (len sz : Nat) (n : Option Nat) (a i : PV) : hfree (ixA len sz n a i) := by
  unfold ixA u0p
  split <;> repeat' (first | exact u03 _ | exact u04 | exact udq _ _ _ | refine u0c ?_ ?_)
theorem ujz (own : Bool) (sz b : Nat) (x y : PV) : hfree (ap own sz b x y) := by
  unfold ap
  split <;> repeat' (first | exact u03 _ | exact u04 | refine u0c ?_ ?_ | split)
theorem ugw (x : PV) : hfree (lnS x) := by unfold lnS; split <;> first | exact u03 _ | exact u04
theorem uhx (x : PV) : hfree (lnL x) := by unfold lnL; split <;> first | exact u03 _ | exact u04
theorem ujq (x y : PV) : hfree (mn x y) := by unfold mn; split <;> repeat' (first | exact u03 _ | exact u04 | refine u0c ?_ ?_)
theorem uiw (x y : PV) : hfree (mx x y) := by unfold mx; split <;> repeat' (first | exact u03 _ | exact u04 | refine u0c ?_ ?_)
theorem uk4 {x : PV} {b : Bool} {m : M PV} (h : hfree m) : hfree (gd x b m) := by
  unfold gd
  split
  · exact u0c h (u03 _)
  · exact u03 _
  · exact u04
def pure0 (o : Oper) : Bool :=
  match o.op with
  | .move _ | .assign _ | .pick .. | .extract _ _ | .fieldAddr .. | .field .. | .nilCheck _ | .typeAssert .. | .binOp .. | .unOp .. | .convert .. | .makeInterface .. | .build .. | .buildSlice .. | .makeSlice .. | .indexAddr .. | .index .. => true
  | .call { callee := .builtin .append, .. } | .call { callee := .builtin .len, .. } | .call { callee := .builtin .min, .. } | .call { callee := .builtin .max, .. } => true
  | _ => false
theorem uk5 (o : Oper) : pureO o = ((match LO o, o.op with | none, _ => true | some false, .buildSlice .. => true | _, _ => false) && pure0 o) := rfl
theorem uig (sz : Nat) (vs : List PV) : hfree (bsL sz vs) := by
  unfold bsL
  exact u0c (u03 _) u04
theorem uhf {P : Program} {C : CallT} {es : Bool} {rc : Option (Option PV)} {ops : Array Oper} {e : Env} {o : Oper} (hp : pure0 o = true) : hfree (op0 P C es rc ops e o) := by
  obtain ⟨dst, op, ty, pos, after, guard⟩ := o
  cases op with
  | move _ => exact u03 _
  | assign _ => exact u03 _
  | pick _ _ _ => exact uff _ _ _
  | extract _ _ => exact uka _ _
  | nilCheck _ => exact ujc _ _
  | unOp _ _ _ => exact uiy _ _
  | binOp _ _ _ _ _ => exact ukc _ _ _ _
  | convert _ _ _ => unfold op0; exact uj3 _ _ _
  | makeInterface _ _ => exact u0j (uk3 _ _)
  | call cl =>
    obtain ⟨callee, args, tys⟩ := cl
    cases callee with
    | builtin b =>
      cases b <;> first | (simp [pure0] at hp; done) | skip
      all_goals
        unfold op0 u4w
        dsimp only
        repeat' (first | exact u03 _ | exact u04 | exact ugw _ | exact uhx _ | exact ujq _ _ | exact uiw _ _ | exact u0j (ujz _ _ _ _ _) | (rename_i h _; cases h; done) | split)
    | _ => simp [pure0] at hp
  | fieldAddr _ _ _ | field _ _ _ | typeAssert _ _ _ _ | build _ _ | buildSlice _ _ _ | makeSlice _ _ _ | indexAddr _ _ _ | index _ _ _ =>
    unfold op0
    dsimp only
    repeat' (first | exact u03 _ | exact u04 | exact u0j (uj7 _ _) | exact u0j (udq _ _ _) | exact u0j (uja _ _ _ _) | exact u0j (u98 _ _) | exact ugc _ _ _ _ | exact u98 _ _ | exact u0j (uk7 _ _ _) | exact u0j (ukf _ _ _ _ _) | exact u0j (uhp _ _ _ _) | exact u0j (uhu _ _ _) | exact ufz _ _ | exact u0j (uhv _ _ _ _ _) | split | refine u0j ?_)
  | _ => simp [pure0] at hp
theorem u7h {P : Program} {C : CallT} {es : Bool} {rc : Option (Option PV)} {ops : Array Oper} {e : Env} {o : Oper} (hp : pureO o = true) : hfree (opVal P C es rc ops e o) := by
  rw [uk5, Bool.and_eq_true] at hp
  unfold opVal
  cases hL : LO o with
  | none => exact uhf hp.2
  | some nw =>
    rw [hL] at hp
    obtain ⟨dst, op, ty, pos, after, guard⟩ := o
    cases nw with
    | true => exact absurd hp.1 (by simp)
    | false =>
      cases op <;> first | (simp at hp; done) | skip
      unfold opL
      dsimp only
      split
      · exact u0j (uig _ _)
      · exact u04
theorem u3x {P : Program} {C : CallT} {es : Bool} {rc : Option (Option PV)} {ops : Array Oper} {e : Env} {o : Oper} (hp : pureO o = true) : hfree (gval P C es rc ops e o) := by
  unfold gval
  split
  · exact u7h hp
  · split
    · exact uk4 (u7h hp)
    · exact u04
def tmpO : Operand → Bool
  | .tmp _ => true
  | _ => false
theorem eff_of {o : Oper} {e : Env} {H H' : Heap} {v : PV} (hq : quietO o = true) (hg : gval c.P c.C c.es c.rc ops e o H = some (.ok v H')) (hs : u0e o = false → H' = H) :
    ∃ f, EffW (touch e o) f ∧ H' = f H ∧ ∀ K, agreeT (touch e o) H K → gval c.P c.C c.es c.rc ops e o K = some (.ok v (f K)) := by
  obtain ⟨dst, op, ty, pos, after, guard⟩ := o
  have other : touch e ⟨dst, op, ty, pos, after, guard⟩ = (bif pureO ⟨dst, op, ty, pos, after, guard⟩ then .no else .any) → u0e ⟨dst, op, ty, pos, after, guard⟩ = false →
      ∃ f, EffW (touch e ⟨dst, op, ty, pos, after, guard⟩) f ∧ H' = f H ∧ ∀ K, agreeT (touch e ⟨dst, op, ty, pos, after, guard⟩) H K → gval c.P c.C c.es c.rc ops e ⟨dst, op, ty, pos, after, guard⟩ K = some (.ok v (f K)) := by
    intro ht hst
    cases hp : pureO ⟨dst, op, ty, pos, after, guard⟩ with
    | true => exact ujr (u3x hp) hg
    | false =>
      rw [hp] at ht
      have hH := hs hst
      subst hH
      refine ⟨fun K => K, .inl rfl, rfl, fun K hK => ?_⟩
      rw [ht] at hK
      have hK : K = H' := hK
      rw [hK]
      exact hg
  unfold quietO at hq
  cases op with
  | load t a =>
    cases guard with
    | some q => simp at hq
    | none =>
      clear other
      have e0 : gval c.P c.C c.es c.rc ops e ⟨dst, .load t a, ty, pos, after, none⟩ = opVal c.P c.C c.es c.rc ops e ⟨dst, .load t a, ty, pos, after, none⟩ := rfl
      rw [e0] at hg ⊢
      clear e0
      have hLO := u21 rfl hg
      rw [u27 hLO] at hg ⊢
      have hg : guardM (known c.P t) (ld (tagg c.P t) (moves ops ⟨dst, .load t a, ty, pos, after, none⟩) (ev e a)) H = some (.ok v H') := hg
      show ∃ f, EffW (tld (ev e a)) f ∧ H' = f H ∧ ∀ K, agreeT (tld (ev e a)) H K → guardM (known c.P t) (ld (tagg c.P t) (moves ops ⟨dst, .load t a, ty, pos, after, none⟩) (ev e a)) K = some (.ok v (f K))
      have hH := hs rfl
      generalize moves ops ⟨dst, .load t a, ty, pos, after, none⟩ = mv at hg ⊢
      generalize tagg c.P t = n at hg ⊢
      subst hH
      obtain ⟨hk, hg⟩ := u02 hg
      rw [hk]
      refine ⟨fun K => K, .inl rfl, rfl, fun K hK => ?_⟩
      show ld n mv (ev e a) K = _
      cases hv : ev e a with
      | ptr id off =>
        rw [hv] at hg hK
        have hK : K[id]? = H'[id]? := hK
        have hg : (match H'[id]? with
          | some (.cells cs) => match n with
            | none => match cs[off]? with
              | some v => bif mv then some (Out.ok v (H'.set id (.cells (cs.set off (stripC v))))) else some (.ok (stripC v) H')
              | none => none
            | some n => bif decide (off + n ≤ cs.length) then some (.ok (.agg (((cs.drop off).take n).map stripC)) H') else none
          | _ => none) = some (.ok v H') := hg
        show (match K[id]? with
          | some (.cells cs) => match n with
            | none => match cs[off]? with
              | some v => bif mv then some (Out.ok v (K.set id (.cells (cs.set off (stripC v))))) else some (.ok (stripC v) K)
              | none => none
            | some n => bif decide (off + n ≤ cs.length) then some (.ok (.agg (((cs.drop off).take n).map stripC)) K) else none
          | _ => none) = some (.ok v K)
        rw [hK]
        cases hb : H'[id]? with
        | none => rw [hb] at hg; cases hg
        | some bx =>
          rw [hb] at hg
          cases bx with
          | cells cs =>
            dsimp only at hg ⊢
            cases n with
            | none =>
              dsimp only at hg ⊢
              cases hc : cs[off]? with
              | none => rw [hc] at hg; cases hg
              | some u =>
                rw [hc] at hg
                dsimp only at hg ⊢
                cases mv with
                | false =>
                  simp only [cond_false, Option.some.injEq, Out.ok.injEq, and_true] at hg ⊢
                  exact hg
                | true =>
                  simp only [cond_true, Option.some.injEq, Out.ok.injEq] at hg ⊢
                  refine ⟨hg.1, ?_⟩
                  have h2 : (H'.set id (.cells (cs.set off (stripC u))))[id]? = H'[id]? := congrArg (fun l => l[id]?) hg.2
                  have hlt := (List.getElem?_eq_some_iff.mp hb).1
                  rw [List.getElem?_set_self hlt, hb] at h2
                  simp only [Option.some.injEq, Box.cells.injEq] at h2
                  rw [h2]
                  have hkb : K[id]? = some (.cells cs) := by rw [hK, hb]
                  obtain ⟨hl, hv⟩ := List.getElem?_eq_some_iff.mp hkb
                  rw [← hv]
                  exact List.set_getElem_self hl
            | some n =>
              dsimp only at hg ⊢
              cases hd : decide (off + n ≤ cs.length) with
              | false => rw [hd] at hg; cases hg
              | true =>
                rw [hd] at hg
                simp only [cond_true, Option.some.injEq, Out.ok.injEq, and_true] at hg ⊢
                exact hg
          | _ => cases hg
      | lel cs =>
        rw [hv] at hg
        have : hfree (ld n mv (.lel cs)) := by
          cases n with
          | none =>
            show hfree (match cs[0]? with | some v => M.pure v | none => M.fail)
            cases cs[0]? <;> first | exact u03 _ | exact u04
          | some n =>
            show hfree (bif decide (n ≤ cs.length) then M.pure _ else M.fail)
            cases decide (n ≤ cs.length) <;> first | exact u03 _ | exact u04
        exact (this _ _ _ hg).2 K
      | elem cs =>
        rw [hv] at hg
        have : hfree (ld n mv (.elem cs)) := by
          cases n with
          | none =>
            show hfree (match cs[0]? with | some v => M.pure v | none => M.fail)
            cases cs[0]? <;> first | exact u03 _ | exact u04
          | some n =>
            show hfree (bif decide (n ≤ cs.length) then M.pure _ else M.fail)
            cases decide (n ≤ cs.length) <;> first | exact u03 _ | exact u04
        exact (this _ _ _ hg).2 K
      | _ => rw [hv] at hg; exact (u00 (H := H') hg).elim
  | store t a x =>
    cases guard with
    | some q => simp at hq
    | none =>
      clear other
      have e0 : gval c.P c.C c.es c.rc ops e ⟨dst, .store t a x, ty, pos, after, none⟩ = opVal c.P c.C c.es c.rc ops e ⟨dst, .store t a x, ty, pos, after, none⟩ := rfl
      rw [e0] at hg ⊢
      clear e0
      have hLO := u21 rfl hg
      rw [u27 hLO] at hg ⊢
      have hg : guardM (known c.P t) (stG c.es (tsize c.P t) (tmpO x) (ev e a) (ev e x)) H = some (.ok v H') := hg
      show ∃ f, EffW (tst (ev e a)) f ∧ H' = f H ∧ ∀ K, agreeT (tst (ev e a)) H K → guardM (known c.P t) (stG c.es (tsize c.P t) (tmpO x) (ev e a) (ev e x)) K = some (.ok v (f K))
      generalize tmpO x = mv at hg ⊢
      generalize tsize c.P t = n at hg ⊢
      obtain ⟨hk, hg⟩ := u02 hg
      rw [hk]
      cases hv : ev e a with
      | ptr id off =>
        rw [hv] at hg
        generalize ev e x = u at hg ⊢
        have hg : (match H[id]? with
          | some (.cells cs) =>
            bif u.cells.length == n && (decide (off + n ≤ cs.length) && ((c.es || lowL (id + 1) u.cells) && u.cells.all isCell)) then
              some (Out.ok PV.undef (H.set id (.cells (fillAt off (bif mv then u.cells else u.cells.map stripC) cs))))
            else none
          | _ => none) = some (.ok v H') := hg
        cases hb : H[id]? with
        | none => rw [hb] at hg; cases hg
        | some bx =>
          rw [hb] at hg
          cases bx with
          | cells cs =>
            dsimp only at hg
            cases hd : (u.cells.length == n && (decide (off + n ≤ cs.length) && ((c.es || lowL (id + 1) u.cells) && u.cells.all isCell))) with
            | false => rw [hd] at hg; cases hg
            | true =>
              rw [hd] at hg
              simp only [cond_true, Option.some.injEq, Out.ok.injEq] at hg
              obtain ⟨rfl, rfl⟩ := hg
              refine ⟨fun K => K.set id (.cells (fillAt off (bif mv then u.cells else u.cells.map stripC) cs)), .inr ⟨id, _, rfl, rfl⟩, rfl, fun K hK => ?_⟩
              have hK : K[id]? = H[id]? := hK
              show (match K[id]? with
                | some (.cells cs) =>
                  bif u.cells.length == n && (decide (off + n ≤ cs.length) && ((c.es || lowL (id + 1) u.cells) && u.cells.all isCell)) then
                    some (Out.ok PV.undef (K.set id (.cells (fillAt off (bif mv then u.cells else u.cells.map stripC) cs))))
                  else none
                | _ => none) = _
              rw [hK, hb]
              dsimp only
              rw [hd]
              rfl
          | _ => cases hg
      | _ => rw [hv] at hg; exact (u00 (H := H) hg).elim
  | _ => exact other rfl rfl
theorem u2s {o : Oper} {e e' : Env} (h : u1d (o.looksAt ops) e e') : touch e o = touch e' o := by
  have hx := u9a h
  obtain ⟨dst, op, ty, pos, after, guard⟩ := o
  cases op <;> first | rfl | skip
  · rename_i t a
    show tld (ev e a) = tld (ev e' a)
    rw [hx a (by simp [Op.operands])]
  · rename_i t a x
    show tst (ev e a) = tst (ev e' a)
    rw [hx a (by simp [Op.operands])]
theorem u9i {e : Env} {o : Oper} {n : Nat} : ¬ touch e o = .al n := by
  obtain ⟨dst, op, ty, pos, after, guard⟩ := o
  cases op with
  | load t a => show ¬ tld (ev e a) = _; cases ev e a <;> simp [tld]
  | store t a x => show ¬ tst (ev e a) = _; cases ev e a <;> simp [tst]
  | _ => unfold touch; dsimp only; cases pureO _ <;> simp
theorem swapW {x y : Oper} {e e1 e2 : Env} {H1 H2 : Heap} (hx : u05 x = false) (hy : u05 y = false) (ha : apartE ops x y = true) (hcl : clash (touch e1 y) (touch e x) = false)
    (h1 : StepW c ops H x e e1 H1) (h2 : StepW c ops H1 y e1 e2 H2) :
    ∃ e1' H1', StepW c ops H y e e1' H1' ∧ StepW c ops H1' x e1' e2 H2 ∧ touch e y = touch e1 y ∧ touch e1' x = touch e x := by
  obtain ⟨k1, q1, v, g1, rfl, s1⟩ := h1
  obtain ⟨k2, q2, u, g2, rfl, s2⟩ := h2
  unfold apartE at ha
  rw [Bool.or_eq_true] at ha
  rcases ha with ha | ha
  · obtain ⟨a1, a2, a3⟩ := u23 ha
    obtain ⟨fx, ex1, ex2, ex3⟩ := eff_of q1 g1 s1
    obtain ⟨fy, ey1, ey2, ey3⟩ := eff_of q2 g2 s2
    rw [u0h hx] at k2 g2 hcl ey1 ey3 ⊢
    rw [u0h hy]
    have agY : u1d (y.looksAt ops) (setAll e (u0k ops x e v)) e := fun t ht => u0f e _ fun p hp he => a1 p.1 (u09 p hp) (he ▸ ht)
    have agX : u1d (x.looksAt ops) (setAll e (u0k ops y e u)) e := fun t ht => u0f e _ fun p hp he => a3 p.1 (u09 p hp) (he ▸ ht)
    have tY : touch (setAll e (u0k ops x e v)) y = touch e y := u2s agY
    have tX : touch (setAll e (u0k ops y e u)) x = touch e x := u2s agX
    rw [tY] at hcl ey1 ey3
    have gY := u1e (P := c.P) (C := c.C) (es := c.es) (rc := c.rc) hy agY
    have gX := u1e (P := c.P) (C := c.C) (es := c.es) (rc := c.rc) hx agX
    have noc : ∀ {i b K}, touch e x = .st i → agreeT (touch e y) (K.set i b) K := by
      intro i b K h
      rw [h] at hcl
      cases hty : touch e y with
      | no => exact True.intro
      | ld j =>
        rw [hty] at hcl
        have hcl : (i == j) = false := hcl
        show K[j]? = (K.set i b)[j]?
        rw [List.getElem?_set_ne (by simpa using hcl)]
      | st j =>
        rw [hty] at hcl
        have hcl : (i == j) = false := hcl
        show K[j]? = (K.set i b)[j]?
        rw [List.getElem?_set_ne (by simpa using hcl)]
      | any => rw [hty] at hcl; cases hcl
      | al n => exact absurd hty u9i
    have noc2 : ∀ {j b K}, touch e y = .st j → agreeT (touch e x) K (K.set j b) := by
      intro j b K h
      rw [h] at hcl
      cases htx : touch e x with
      | no => exact True.intro
      | ld i =>
        rw [htx] at hcl
        have hcl : (i == j) = false := hcl
        have hne : i ≠ j := by simpa using hcl
        show (K.set j b)[i]? = K[i]?
        rw [List.getElem?_set_ne (fun h => hne h.symm)]
      | st i =>
        rw [htx] at hcl
        have hcl : (i == j) = false := hcl
        have hne : i ≠ j := by simpa using hcl
        show (K.set j b)[i]? = K[i]?
        rw [List.getElem?_set_ne (fun h => hne h.symm)]
      | any => rw [htx] at hcl; cases hcl
      | al n => exact absurd htx u9i
    have agr : ∀ {τ : Touch} {K : Heap}, agreeT τ K K := by
      intro τ K
      cases τ <;> first | exact True.intro | rfl
    have yH : gval c.P c.C c.es c.rc ops e y H = some (.ok u (fy H)) := by
      rw [← gY]
      refine ey3 H ?_
      rw [ex2]
      rcases ex1 with rfl | ⟨i, b, h1, rfl⟩
      · exact agr
      · exact noc h1
    have xH : gval c.P c.C c.es c.rc ops (setAll e (u0k ops y e u)) x (fy H) = some (.ok v (fx (fy H))) := by
      rw [gX]
      refine ex3 _ ?_
      rcases ey1 with rfl | ⟨j, b, h1, rfl⟩
      · exact agr
      · exact noc2 h1
    have hcomm : fx (fy H) = H2 := by
      rw [ey2, ex2]
      rcases ex1 with rfl | ⟨i, b, h1, rfl⟩
      · rfl
      · rcases ey1 with rfl | ⟨j, b', h2, rfl⟩
        · rfl
        · rw [h1, h2] at hcl
          have hcl : (i == j) = false := hcl
          have hne : i ≠ j := by simpa using hcl
          exact List.set_comm _ _ (fun h => hne h.symm)
    refine ⟨setAll e (u0k ops y e u), fy H, ⟨?_, q2, u, yH, (u0h hy).symm, fun hs => ?_⟩, ⟨?_, q1, v, ?_, ?_, fun hs => ?_⟩, tY.symm, tX⟩
    · rw [← k2]
      refine u0v (by rw [u0u]) fun t ht => (u0f e _ fun p hp he => ?_).symm
      refine a2 p.1 (u09 p hp) ?_
      rw [he]
      exact List.mem_append_left _ (by rw [ht]; simp)
    · rcases ey1 with rfl | ⟨j, b, h1, rfl⟩
      · rfl
      · exfalso
        obtain ⟨dst, op, ty, pos, after, guard⟩ := y
        cases op with
        | store t a x => cases hs
        | load t a =>
          have h1 : tld (ev e a) = .st j := h1
          cases hv : ev e a <;> rw [hv] at h1 <;> cases h1
        | _ =>
          revert h1
          unfold touch
          dsimp only
          cases pureO _ <;> intro h1 <;> cases h1
    · rw [← k1]
      refine u0v (by rw [u0u]) fun t ht => u0f e _ fun p hp he => ?_
      refine a2 t (List.mem_append_left _ (by rw [ht]; simp)) ?_
      rw [← he]
      exact u09 p hp
    · rw [xH, hcomm]
    · rw [u0h hx, u0z agX, u0z agY]
      exact u2q e _ _ fun p hp q hq he => a2 p.1 (u09 p hp) (he ▸ u09 q hq)
    · rw [← hcomm]
      rcases ex1 with rfl | ⟨i, b, h1, rfl⟩
      · rfl
      · exfalso
        obtain ⟨dst, op, ty, pos, after, guard⟩ := x
        cases op with
        | store t a x => cases hs
        | load t a =>
          have h1 : tld (ev e a) = .st i := h1
          cases hv : ev e a <;> rw [hv] at h1 <;> cases h1
        | _ =>
          revert h1
          unfold touch
          dsimp only
          cases pureO _ <;> intro h1 <;> cases h1
  · obtain ⟨r1, r2, r3, r4, r5, r6, r7, r8, r9⟩ := exSwap ha g1 g2 k1 k2
    subst r1 r2
    exact ⟨_, _, ⟨r3, q2, u, r5 _, rfl, fun _ => rfl⟩, ⟨r4, q1, v, r6 _, r7.symm, fun _ => rfl⟩, by rw [r9, r9], by rw [r8, r8]⟩
def RunW (c : Ctx) (ops : Array Oper) : List (Nat × Touch) → Env → Heap → Env → Heap → Prop
  | [], e, H, e', H' => e = e' ∧ H = H'
  | (i, τ) :: r, e, H, e', H' => ∃ o e1 H1, ops[i]? = some o ∧ touch e o = τ ∧ StepW c ops H o e e1 H1 ∧ RunW c ops r e1 H1 e' H'
theorem frontW {i : Nat} {τ : Touch} {oi : Oper} (hi : ops[i]? = some oi) (hri : u05 oi = false) (hr : ∀ (j : Nat) (o : Oper), ops[j]? = some o → u05 o = false) : ∀ (A B : List (Nat × Touch)) (e e' : Env) (H H' : Heap),
    (∀ a ∈ A, (∀ oa, ops[a.1]? = some oa → apartE ops oa oi = true) ∧ clash τ a.2 = false) → RunW c ops (A ++ (i, τ) :: B) e H e' H' → RunW c ops ((i, τ) :: (A ++ B)) e H e' H'
  | [], B, e, e', H, H', ha, h => h
  | (a, σ) :: A, B, e, e', H, H', ha, h => by
    obtain ⟨oa, e1, H1, hoa, hta, hs, hrun⟩ := h
    obtain ⟨o, e2, H2, ho, hto, hs2, hrun2⟩ := frontW hi hri hr A B e1 e' H1 H' (fun b hb => ha b (List.mem_cons_of_mem _ hb)) hrun
    rw [hi] at ho
    cases ho
    obtain ⟨b1, b2⟩ := ha (a, σ) List.mem_cons_self
    obtain ⟨e1', H1', s1, s2, t1, t2⟩ := swapW (hr a oa hoa) hri (b1 oa hoa) (by rw [hto, hta]; exact b2) hs hs2
    exact ⟨oi, e1', H1', hi, t1.trans hto, s1, oa, e2, H2, hoa, t2.trans hta, s2, hrun2⟩
theorem uke {m : M PV} {f : PV → M PV} {H : Heap} {out : Out PV} (h : M.bind (noPan m) f H = some out) : ∃ v H', m H = some (.ok v H') ∧ f v H' = some out := by
  unfold M.bind noPan at h
  cases hm : m H with
  | none => rw [hm] at h; cases h
  | some q =>
    rw [hm] at h
    cases q with
    | ok v H' => exact ⟨v, H', rfl, h⟩
    | pan v H' => cases h
theorem uch {k : Env → M PV} {out : Out PV} : ∀ (l : List Oper) (ts : List (Nat × Touch)) (i : Nat) (env : Env) (H : Heap), (∀ j, l[j]? = ops[i + j]?) → dOpsW c ops i ts l env k H = some out →
    ∃ e' H' L, L.map Prod.fst = List.range' i l.length ∧ (∀ q ∈ L, ∀ t ∈ ts, ((befs ops.toList []).getD q.1 0).testBit t.1 = true ∨ clash q.2 t.2 = false) ∧ L.Pairwise (fun x y => ((befs ops.toList []).getD y.1 0).testBit x.1 = true ∨ clash y.2 x.2 = false) ∧ RunW c ops L env H e' H' ∧ k e' H' = some out
  | [], ts, i, env, H, hl, h => ⟨env, H, [], rfl, (fun q hq => by cases hq), List.Pairwise.nil, ⟨rfl, rfl⟩, h⟩
  | o :: r, ts, i, env, H, hl, h => by
    unfold dOpsW at h
    obtain ⟨hok, h⟩ := u02 h
    unfold uik at hok
    simp only [Bool.and_eq_true, List.all_eq_true, Bool.or_eq_true, Bool.not_eq_true'] at hok
    obtain ⟨hok, hq, hcl⟩ := hok
    have ho : ops[i]? = some o := by
      have := hl 0
      simpa using this.symm
    have hr : ∀ j, r[j]? = ops[i + 1 + j]? := fun j => by
      have := hl (j + 1)
      rw [List.getElem?_cons_succ] at this
      rw [this]
      congr 1
      omega
    have key : ∃ v H1, gval c.P c.C c.es c.rc ops env o H = some (.ok v H1) ∧ (u0e o = false → H1 = H) ∧ dOpsW c ops (i + 1) ((i, touch env o) :: ts) r (put c.rc ops env o v) k H1 = some out := by
      cases hst : u0e o with
      | true =>
        rw [hst] at h
        obtain ⟨v, H1, h1, h2⟩ := uke h
        exact ⟨v, H1, h1, (fun h => nomatch h), h2⟩
      | false =>
        rw [hst] at h
        obtain ⟨v, h1, h2⟩ := nb_some.mp h
        exact ⟨v, H, h1, fun _ => rfl, h2⟩
    obtain ⟨v, H1, hg, hs, h2⟩ := key
    obtain ⟨e', H', L, l1, l2, l3, l4, l5⟩ := uch r ((i, touch env o) :: ts) (i + 1) _ H1 hr h2
    refine ⟨e', H', (i, touch env o) :: L, ?_, fun q hq t ht => ?_, List.pairwise_cons.mpr ⟨fun q hq => l2 q hq _ List.mem_cons_self, l3⟩, ⟨o, _, H1, ho, rfl, ⟨hok, hq, v, hg, rfl, hs⟩, l4⟩, l5⟩
    · rw [List.map_cons, l1]; rfl
    · rcases List.mem_cons.mp hq with rfl | hq
      · exact hcl t ht
      · exact l2 q hq t (List.mem_cons_of_mem _ ht)
def RW (c : Ctx) (ops : Array Oper) (e' : Env) (H' : Heap) (l : List Nat) (e : Env) (H : Heap) : Prop :=
  ∃ L : List (Nat × Touch), L.map Prod.fst = l ∧ L.Pairwise (fun x y => ((befs ops.toList []).getD y.1 0).testBit x.1 = true ∨ clash y.2 x.2 = false) ∧ RunW c ops L e H e' H'
theorem RW.front (hcm : commB ops = true) {e' : Env} {H' : Heap} (A : List Nat) (i : Nat) (B : List Nat) (oi : Oper) (e : Env) (H : Heap) (hi : ops[i]? = some oi) (ha : ∀ a ∈ A, ∀ oa, ops[a]? = some oa → apartE ops oa oi = true)
    (hnb : ∀ k ∈ A ++ B, ((befs ops.toList []).getD i 0).testBit k = false) (hR : RW c ops e' H' (A ++ i :: B) e H) : okDst c.rc.isSome c.prot e oi.dst = true ∧ ∃ v H1, gval c.P c.C c.es c.rc ops e oi H = some (.ok v H1) ∧ RW c ops e' H' (A ++ B) (put c.rc ops e oi v) H1 := by
  obtain ⟨L, h1, h2, h3⟩ := hR
  obtain ⟨LA, LB, rfl, hA, hB⟩ := List.map_eq_append_iff.mp h1
  cases LB with
  | nil => cases hB
  | cons q LB =>
    obtain ⟨j, τ⟩ := q
    simp only [List.map_cons, List.cons.injEq] at hB
    obtain ⟨rfl, hB⟩ := hB
    have hp := List.pairwise_append.mp h2
    obtain ⟨o, e1, H1, ho, hto, ⟨hok, hq, v, hg, rfl, hs⟩, hrun⟩ := frontW hi (u0o hcm hi).1 (fun j o hj => (u0o hcm hj).1) LA LB e e' H H' (fun a ham => ⟨fun oa hoa => ha a.1 (by rw [← hA]; exact List.mem_map_of_mem ham) oa hoa, (hp.2.2 a ham _ List.mem_cons_self).resolve_left (by rw [hnb a.1 (List.mem_append_left _ (by rw [← hA]; exact List.mem_map_of_mem ham))]; simp)⟩) h3
    rw [hi] at ho
    cases ho
    refine ⟨hok, v, H1, hg, LA ++ LB, by rw [List.map_append, hA, hB], ?_, hrun⟩
    refine List.pairwise_append.mpr ⟨hp.1, (List.pairwise_cons.mp hp.2.1).2, fun a ha b hb => hp.2.2 a ha b (List.mem_cons_of_mem _ hb)⟩
theorem RW.nil {e' e : Env} {H' H : Heap} (h : RW c ops e' H' [] e H) : e = e' ∧ H = H' := by
  obtain ⟨L, h1, h2, h3⟩ := h
  cases L with
  | nil => exact h3
  | cons q r => cases h1
def StepL (c : Ctx) (ops : Array Oper) (H : Heap) (o : Oper) (e e' : Env) (H' : Heap) : Prop :=
  okDst c.rc.isSome c.prot e o.dst = true ∧ ∃ v, gval c.P c.C c.es c.rc ops e o H = some (.ok v H') ∧ e' = put c.rc ops e o v
def RunL (c : Ctx) (ops : Array Oper) : List Nat → Env → Heap → Env → Heap → Prop
  | [], e, H, e', H' => e = e' ∧ H = H'
  | i :: r, e, H, e', H' => ∃ o e1 H1, ops[i]? = some o ∧ StepL c ops H o e e1 H1 ∧ RunL c ops r e1 H1 e' H'
theorem ubs {o : Oper} {e : Env} {H H' : Heap} {v : PV} (hp : keepO ops o = true) (h : gval c.P c.C c.es c.rc ops e o H = some (.ok v H')) : H' = H := by
  unfold keepO at hp
  rw [Bool.or_eq_true] at hp
  rcases hp with hp | hp
  · exact (u3x hp _ _ _ h).1
  · obtain ⟨dst, op, ty, pos, after, guard⟩ := o
    cases op with
    | load t a =>
      have hm : moves ops ⟨dst, .load t a, ty, pos, after, guard⟩ = false := by simpa using hp
      have one : ∀ {u : PV} {K : Heap}, opVal c.P c.C c.es c.rc ops e ⟨dst, .load t a, ty, pos, after, guard⟩ H = some (.ok u K) → K = H := by
        intro u K hg
        have hLO := u21 rfl hg
        rw [u27 hLO] at hg
        have hg : guardM (known c.P t) (ld (tagg c.P t) (moves ops ⟨dst, .load t a, ty, pos, after, guard⟩) (ev e a)) H = some (.ok u K) := hg
        obtain ⟨_, hg⟩ := u02 hg
        rw [hm] at hg
        generalize tagg c.P t = n at hg
        cases ha : ev e a with
        | ptr id off =>
          rw [ha] at hg
          have hg : (match H[id]? with
            | some (.cells cs) => match n with
              | none => match cs[off]? with
                | some v => bif false then some (Out.ok v (H.set id (.cells (cs.set off (stripC v))))) else some (.ok (stripC v) H)
                | none => none
              | some n => bif decide (off + n ≤ cs.length) then some (.ok (.agg (((cs.drop off).take n).map stripC)) H) else none
            | _ => none) = some (.ok u K) := hg
          cases hb : H[id]? with
          | none => rw [hb] at hg; cases hg
          | some bx =>
            rw [hb] at hg
            cases bx with
            | cells cs =>
              cases n with
              | none =>
                dsimp only at hg
                cases hc : cs[off]? with
                | none => rw [hc] at hg; cases hg
                | some w =>
                  rw [hc] at hg
                  simp only [cond_false, Option.some.injEq, Out.ok.injEq] at hg
                  exact hg.2.symm
              | some n =>
                dsimp only at hg
                cases hd : decide (off + n ≤ cs.length) with
                | false => rw [hd] at hg; cases hg
                | true =>
                  rw [hd] at hg
                  simp only [cond_true, Option.some.injEq, Out.ok.injEq] at hg
                  exact hg.2.symm
            | _ => cases hg
        | lel cs =>
          rw [ha] at hg
          cases n with
          | none =>
            have hg : (match cs[0]? with | some v => M.pure v | none => M.fail) H = some (.ok u K) := hg
            cases hc : cs[0]? with
            | none => rw [hc] at hg; exact (u00 (H := H) hg).elim
            | some w => rw [hc] at hg; exact (u03 w _ _ _ hg).1
          | some n => exact (u0c (u03 _) u04 _ _ _ hg).1
        | elem cs =>
          rw [ha] at hg
          cases n with
          | none =>
            have hg : (match cs[0]? with | some v => M.pure v | none => M.fail) H = some (.ok u K) := hg
            cases hc : cs[0]? with
            | none => rw [hc] at hg; exact (u00 (H := H) hg).elim
            | some w => rw [hc] at hg; exact (u03 w _ _ _ hg).1
          | some n => exact (u0c (u03 _) u04 _ _ _ hg).1
        | _ => rw [ha] at hg; exact (u00 (H := H) hg).elim
      unfold gval at h
      cases guard with
      | none => exact one h
      | some jw =>
        obtain ⟨j, want⟩ := jw
        dsimp only at h
        cases hd : (ops[j]?).bind (·.dst) with
        | none => rw [hd] at h; exact (u00 (H := H) h).elim
        | some d =>
          rw [hd] at h
          dsimp only at h
          generalize e.getD d .undef = u at h
          cases u with
          | bool b =>
            have h : (bif b == want then opVal c.P c.C c.es c.rc ops e ⟨dst, .load t a, ty, pos, after, some (j, want)⟩ else M.pure (.tup [])) H = some (.ok v H') := h
            cases hb : (b == want) with
            | true => rw [hb] at h; exact one h
            | false => rw [hb] at h; exact (u03 _ _ _ _ h).1
          | tup vs =>
            cases vs with
            | nil => exact (u03 _ _ _ _ h).1
            | cons x y => exact (u00 (H := H) h).elim
          | _ => exact (u00 (H := H) h).elim
    | _ => simp at hp
theorem swapL {x y : Oper} {e e1 e2 : Env} {H1 H2 : Heap} (hx : u05 x = false) (hy : u05 y = false) (ha : apartE ops x y = true) (hp : (pureO x = true ∨ pureO y = true) ∨ (keepO ops x = true ∧ keepO ops y = true))
    (h1 : StepL c ops H x e e1 H1) (h2 : StepL c ops H1 y e1 e2 H2) : ∃ e1' H1', StepL c ops H y e e1' H1' ∧ StepL c ops H1' x e1' e2 H2 := by
  obtain ⟨k1, v, g1, rfl⟩ := h1
  obtain ⟨k2, u, g2, rfl⟩ := h2
  unfold apartE at ha
  rw [Bool.or_eq_true] at ha
  rcases ha with ha | ha
  · obtain ⟨a1, a2, a3⟩ := u23 ha
    rw [u0h hx] at k2 g2 ⊢
    rw [u0h hy]
    have agY : u1d (y.looksAt ops) (setAll e (u0k ops x e v)) e := fun t ht => u0f e _ fun p hp he => a1 p.1 (u09 p hp) (he ▸ ht)
    have agX : u1d (x.looksAt ops) (setAll e (u0k ops y e u)) e := fun t ht => u0f e _ fun p hp he => a3 p.1 (u09 p hp) (he ▸ ht)
    have gY := u1e (P := c.P) (C := c.C) (es := c.es) (rc := c.rc) hy agY
    have gX := u1e (P := c.P) (C := c.C) (es := c.es) (rc := c.rc) hx agX
    rw [gY] at g2
    have key : ∃ H1', gval c.P c.C c.es c.rc ops e y H = some (.ok u H1') ∧ gval c.P c.C c.es c.rc ops e x H1' = some (.ok v H2) := by
      rcases hp with (hp | hp) | ⟨p1, p2⟩
      · obtain ⟨rfl, h3⟩ := u3x hp _ _ _ g1
        exact ⟨H2, g2, h3 H2⟩
      · obtain ⟨rfl, h3⟩ := u3x hp _ _ _ g2
        exact ⟨H, h3 H, g1⟩
      · have e1 := ubs p1 g1
        subst e1
        have e2 := ubs p2 g2
        subst e2
        exact ⟨_, g2, g1⟩
    obtain ⟨H1', y1, x1⟩ := key
    refine ⟨setAll e (u0k ops y e u), H1', ⟨?_, u, y1, (u0h hy).symm⟩, ⟨?_, v, by rw [gX]; exact x1, ?_⟩⟩
    · rw [← k2]
      refine u0v (by rw [u0u]) fun t ht => (u0f e _ fun p hp he => ?_).symm
      refine a2 p.1 (u09 p hp) ?_
      rw [he]
      exact List.mem_append_left _ (by rw [ht]; simp)
    · rw [← k1]
      refine u0v (by rw [u0u]) fun t ht => u0f e _ fun p hp he => ?_
      refine a2 t (List.mem_append_left _ (by rw [ht]; simp)) ?_
      rw [← he]
      exact u09 p hp
    · rw [u0h hx, u0z agX, u0z agY]
      exact u2q e _ _ fun p hp q hq he => a2 p.1 (u09 p hp) (he ▸ u09 q hq)
  · obtain ⟨r1, r2, r3, r4, r5, r6, r7, r8, r9⟩ := exSwap ha g1 g2 k1 k2
    subst r1 r2
    exact ⟨_, _, ⟨r3, u, r5 _, rfl⟩, ⟨r4, v, r6 _, r7.symm⟩⟩
def Swap (ops : Array Oper) (i j : Nat) : Prop := ∀ x y, ops[i]? = some x → ops[j]? = some y → u05 x = false ∧ u05 y = false ∧ apartE ops x y = true ∧ ((pureO x = true ∨ pureO y = true) ∨ (keepO ops x = true ∧ keepO ops y = true))
theorem frontL {i : Nat} : ∀ (A B : List Nat) (e e' : Env) (H H' : Heap), (∀ a ∈ A, Swap ops a i) → RunL c ops (A ++ i :: B) e H e' H' → RunL c ops (i :: (A ++ B)) e H e' H'
  | [], B, e, e', H, H', ha, h => h
  | a :: A, B, e, e', H, H', ha, h => by
    obtain ⟨oa, e1, H1, hoa, hs, hrun⟩ := h
    obtain ⟨oi, e2, H2, hi, hs2, hrun2⟩ := frontL A B e1 e' H1 H' (fun b hb => ha b (List.mem_cons_of_mem _ hb)) hrun
    obtain ⟨b1, b2, b3, b4⟩ := ha a List.mem_cons_self oa oi hoa hi
    obtain ⟨e1', H1', s1, s2⟩ := swapL b1 b2 b3 b4 hs hs2
    exact ⟨oi, e1', H1', hi, s1, oa, e2, H2, hoa, s2, hrun2⟩
theorem sortL : ∀ (τ σ : List Nat) (e e' : Env) (H H' : Heap), τ.Nodup → σ.Perm τ → (∀ x y, [x, y].Sublist σ → [y, x].Sublist τ → Swap ops x y) → RunL c ops σ e H e' H' → RunL c ops τ e H e' H'
  | [], σ, e, e', H, H', hn, hp, hs, h => by
    have := hp.eq_nil
    subst this
    exact h
  | i :: τ, σ, e, e', H, H', hn, hp, hs, h => by
    have hi : i ∈ σ := hp.mem_iff.mpr List.mem_cons_self
    obtain ⟨A, B, rfl⟩ := List.append_of_mem hi
    have hp2 : (A ++ B).Perm τ := by
      have h1 : (i :: (A ++ B)).Perm (i :: τ) := List.perm_middle.symm.trans hp
      exact h1.cons_inv
    have hn2 := List.nodup_cons.mp hn
    obtain ⟨o, e1, H1, ho, hst, hrun⟩ := frontL A B e e' H H' (fun a ha => by
      refine hs a i ?_ ?_
      · obtain ⟨A1, A2, rfl⟩ := List.append_of_mem ha
        have : [a, i] = [a] ++ [i] := rfl
        rw [this]
        refine List.Sublist.append ?_ ?_
        · exact List.singleton_sublist.mpr ha
        · exact List.singleton_sublist.mpr List.mem_cons_self
      · refine List.Sublist.cons_cons _ (List.singleton_sublist.mpr ?_)
        exact hp2.mem_iff.mp (List.mem_append_left _ ha)) h
    refine ⟨o, e1, H1, ho, hst, sortL τ (A ++ B) e1 e' H1 H' hn2.2 hp2 (fun x y h1 h2 => hs x y ?_ (h2.trans (List.sublist_cons_self _ _))) hrun⟩
    exact h1.trans (List.Sublist.append (List.Sublist.refl _) (List.sublist_cons_self _ _))
theorem u3t {b : List Nat} : ∀ {l : List Nat} {x y : Nat}, consB b l = true → [x, y].Sublist l → (b.getD x 0).testBit y = false
  | i :: r, x, y, h, hs => by
    unfold consB at h
    simp only [Bool.and_eq_true, List.all_eq_true, Bool.not_eq_true'] at h
    cases hs with
    | cons _ hs => exact u3t h.2 hs
    | cons_cons _ hs => exact h.1 y (List.singleton_sublist.mp hs)
theorem uee {b : List Nat} : ∀ {l : List Nat}, (∀ x y, [x, y].Sublist l → (b.getD x 0).testBit y = false) → consB b l = true
  | [], h => rfl
  | i :: r, h => by
    unfold consB
    simp only [Bool.and_eq_true, List.all_eq_true, Bool.not_eq_true']
    exact ⟨fun y hy => h i y (List.Sublist.cons_cons _ (List.singleton_sublist.mpr hy)), uee fun x y hs => h x y (hs.trans (List.sublist_cons_self _ _))⟩
theorem uad {b l l' : List Nat} (h : consB b l = true) (hs : l'.Sublist l) : consB b l' = true := uee fun x y h2 => u3t h (h2.trans hs)
theorem u4u : ∀ {l : List Nat} {x y : Nat}, l.Nodup → [y, x].Sublist l → u7l l x y = false
  | z :: r, x, y, hn, hs => by
    have hn2 := List.nodup_cons.mp hn
    unfold u7l
    cases hs with
    | cons _ hs =>
      have hx : x ∈ r := hs.subset (by simp)
      have hy : y ∈ r := hs.subset (by simp)
      have h1 : (z == x) = false := by
        simp only [beq_eq_false_iff_ne, ne_eq]
        intro h; subst h; exact hn2.1 hx
      have h2 : (z == y) = false := by
        simp only [beq_eq_false_iff_ne, ne_eq]
        intro h; subst h; exact hn2.1 hy
      rw [h1, h2]
      exact u4u hn2.2 hs
    | cons_cons _ hs =>
      have hx : x ∈ r := hs.subset (by simp)
      have h1 : (z == x) = false := by
        simp only [beq_eq_false_iff_ne, ne_eq]
        intro h; subst h; exact hn2.1 hx
      rw [h1]
      simp
theorem u6s {π : List Nat} : ∀ {l : List Nat} {x y : Nat}, closeB ops l π = true → [x, y].Sublist l → u7l π x y = true ∨ (keepI ops x = true ∧ keepI ops y = true)
  | i :: r, x, y, h, hs => by
    unfold closeB at h
    simp only [Bool.and_eq_true, List.all_eq_true, Bool.or_eq_true] at h
    cases hs with
    | cons _ hs => exact u6s h.2 hs
    | cons_cons _ hs => exact h.1 y (List.singleton_sublist.mp hs)
theorem ugx : ∀ (τ l : List Nat), τ.Perm l → τ ∈ arr l.length l
  | [], l, h => by
    have := h.symm.eq_nil
    subst this
    exact List.mem_singleton.mpr rfl
  | i :: τ, l, h => by
    have hi : i ∈ l := h.mem_iff.mp List.mem_cons_self
    have h2 : τ.Perm (l.erase i) := (List.cons_perm_iff_perm_erase.mp h).2
    have hl : l.length = (l.erase i).length + 1 := by rw [List.length_erase_of_mem hi]; have := List.length_pos_of_mem hi; omega
    rw [hl]
    unfold arr
    exact List.mem_flatMap.mpr ⟨i, hi, List.mem_map.mpr ⟨τ, ugx τ _ h2, rfl⟩⟩
theorem u3n {α : Type} {b : Bool} {m : M α} {H : Heap} {out : Out α} (h : guardM b m H = some out) : b = true ∧ m H = some out := by
  cases b
  · exact (by cases h)
  · exact ⟨rfl, h⟩
theorem u6i : ∀ (l s : List Nat), l.Nodup → (∀ i ∈ l, i ∈ s) → s.length ≤ l.length → s.Perm l
  | [], s, hn, hs, hl => by
    have : s = [] := List.eq_nil_of_length_eq_zero (by simpa using hl)
    subst this
    exact List.Perm.refl _
  | a :: r, s, hn, hs, hl => by
    have hn2 := List.nodup_cons.mp hn
    have ha : a ∈ s := hs a List.mem_cons_self
    have h1 : s.Perm (a :: s.erase a) := List.perm_cons_erase ha
    refine h1.trans (List.Perm.cons a (u6i r (s.erase a) hn2.2 (fun i hi => ?_) ?_))
    · refine (List.mem_erase_of_ne (fun h => ?_)).mpr (hs i (List.mem_cons_of_mem _ hi))
      subst h
      exact hn2.1 hi
    · rw [List.length_erase_of_mem ha]
      simp only [List.length_cons] at hl
      omega
theorem u3r {β : Type} {k : Env → M β} {out : Out β} : ∀ (l : List Nat) (e : Env) (H : Heap), dOpsL c ops l e k H = some out → ∃ e' H', RunL c ops l e H e' H' ∧ k e' H' = some out
  | [], e, H, h => ⟨e, H, ⟨rfl, rfl⟩, h⟩
  | i :: r, e, H, h => by
    unfold dOpsL at h
    cases ho : ops[i]? with
    | none => rw [ho] at h; exact (u00 (H := H) h).elim
    | some o =>
      rw [ho] at h
      dsimp only at h
      obtain ⟨hok, h⟩ := u3n h
      have : ∃ v H1, gval c.P c.C c.es c.rc ops e o H = some (.ok v H1) ∧ dOpsL c ops r (put c.rc ops e o v) k H1 = some out := by
        unfold M.bind noPan at h
        cases hm : gval c.P c.C c.es c.rc ops e o H with
        | none => rw [hm] at h; cases h
        | some q =>
          rw [hm] at h
          cases q with
          | ok v H' => exact ⟨v, H', rfl, h⟩
          | pan v H' => cases h
      obtain ⟨v, H1, h1, h2⟩ := this
      obtain ⟨e', H', r1, r2⟩ := u3r r _ _ h2
      exact ⟨e', H', ⟨o, _, H1, ho, ⟨hok, v, h1, rfl⟩, r1⟩, r2⟩
theorem ub4 {σ0 : List Nat} {e : Env} {out : Out PV} : ∀ (l : List (List Nat)) {x : M PV}, chkL c ops e σ0 l x H = some out → x H = some out ∧ ∀ σ ∈ l, ∃ e' H', RunL c ops σ e H e' H' ∧ RunL c ops σ0 e H e' H'
  | [], x, h => ⟨h, fun σ hs => by cases hs⟩
  | σ :: r, x, h => by
    obtain ⟨a, K, h1, h2, h3⟩ := chk_some.mp h
    obtain ⟨r1, r2⟩ := ub4 r h3
    refine ⟨r1, fun σ' hs => ?_⟩
    rcases List.mem_cons.mp hs with rfl | hs
    · obtain ⟨e1, H1, q1, q2⟩ := u3r _ _ _ h1
      obtain ⟨e2, H2, q3, q4⟩ := u3r _ _ _ h2
      simp only [M.pure, Option.some.injEq, Out.ok.injEq] at q2 q4
      obtain ⟨rfl, rfl⟩ := q2
      obtain ⟨rfl, rfl⟩ := q4
      exact ⟨_, _, q1, q3⟩
    · exact r2 σ' hs
theorem RunL.det : ∀ {l : List Nat} {e e1 e2 : Env} {H H1 H2 : Heap}, RunL c ops l e H e1 H1 → RunL c ops l e H e2 H2 → e1 = e2 ∧ H1 = H2
  | [], e, e1, e2, H, H1, H2, h, k => ⟨h.1.symm.trans k.1, h.2.symm.trans k.2⟩
  | i :: r, e, e1, e2, H, H1, H2, h, k => by
    obtain ⟨o, x, K, ho, ⟨_, v, hg, rfl⟩, hr⟩ := h
    obtain ⟨o', x', K', ho', ⟨_, v', hg', rfl⟩, hr'⟩ := k
    rw [ho] at ho'
    cases ho'
    rw [hg] at hg'
    cases hg'
    exact RunL.det hr hr'
def RL (c : Ctx) (ops : Array Oper) (e' : Env) (H' : Heap) (l : List Nat) (e : Env) (H : Heap) : Prop :=
  l.Nodup ∧ consB (befs ops.toList []) l = true ∧ ∀ τ : List Nat, τ.Perm l → consB (befs ops.toList []) τ = true → RunL c ops τ e H e' H'
theorem RL.front {e' : Env} {H' : Heap} (A : List Nat) (i : Nat) (B : List Nat) (oi : Oper) (e : Env) (H : Heap) (hi : ops[i]? = some oi) (hnb : ∀ k ∈ A ++ B, ((befs ops.toList []).getD i 0).testBit k = false)
    (hR : RL c ops e' H' (A ++ i :: B) e H) : okDst c.rc.isSome c.prot e oi.dst = true ∧ ∃ v H1, gval c.P c.C c.es c.rc ops e oi H = some (.ok v H1) ∧ RL c ops e' H' (A ++ B) (put c.rc ops e oi v) H1 := by
  obtain ⟨h1, h2, h3⟩ := hR
  have hsub : (A ++ B).Sublist (A ++ i :: B) := List.Sublist.append (List.Sublist.refl _) (List.sublist_cons_self _ _)
  have hcB : consB (befs ops.toList []) (A ++ B) = true := uad h2 hsub
  have key : ∀ τ : List Nat, τ.Perm (A ++ B) → consB (befs ops.toList []) τ = true → RunL c ops (i :: τ) e H e' H' := by
    intro τ hp hc
    refine h3 _ ((List.Perm.cons i hp).trans List.perm_middle.symm) ?_
    unfold consB
    simp only [Bool.and_eq_true, List.all_eq_true, Bool.not_eq_true']
    exact ⟨fun j hj => hnb j (hp.mem_iff.mp hj), hc⟩
  obtain ⟨o, e1, H1, ho, ⟨hok, v, hg, rfl⟩, hrun⟩ := key _ (List.Perm.refl _) hcB
  rw [hi] at ho
  cases ho
  refine ⟨hok, v, H1, hg, h1.sublist hsub, hcB, fun τ hp hc => ?_⟩
  obtain ⟨o', e2, H2, ho', ⟨_, v', hg', rfl⟩, hrun'⟩ := key τ hp hc
  rw [hi] at ho'
  cases ho'
  rw [hg] at hg'
  cases hg'
  exact hrun'
theorem RL.nil {e' e : Env} {H' H : Heap} (h : RL c ops e' H' [] e H) : e = e' ∧ H = H' := h.2.2 [] (List.Perm.refl _) rfl
theorem u6a (hcm : commB ops = true) {n : Nat} {e : Env} {k : Env → M PV} {out : Out PV} (h : dOpsPN c ops n e k H = some out) : ∃ e' H', RL c ops e' H' (List.range n) e H ∧ k e' H' = some out := by
  unfold dOpsPN at h
  obtain ⟨hg, h⟩ := u02 h
  generalize hords : ordsN ops n = ords at hg h
  cases ords with
  | nil => exact (u00 (H := H) h).elim
  | cons σ0 r =>
    dsimp only at h
    obtain ⟨h1, h2⟩ := ub4 r h
    obtain ⟨e', H', r0, hk⟩ := u3r _ _ _ h1
    refine ⟨e', H', ⟨List.nodup_range, ?_, fun τ hp hc => ?_⟩, hk⟩
    · unfold goodP at hg
      simp only [Bool.and_eq_true] at hg
      exact hg.1
    · unfold goodP at hg
      simp only [Bool.and_eq_true, List.all_eq_true, Bool.or_eq_true, beq_iff_eq, Bool.not_eq_true', List.any_eq_true] at hg
      obtain ⟨_, g2, g3, g4⟩ := hg
      have hperm : ∀ σ ∈ σ0 :: r, σ.Perm (List.range n) := by
        intro σ hs
        obtain ⟨a1, a2, a3⟩ := g2 σ hs
        exact u6i _ _ List.nodup_range (fun i hi => by simpa using a2 i hi) (by simp [a1])
      have hn : τ.Nodup := hp.nodup_iff.mpr List.nodup_range
      have hpi : (τ.filter (isHeap ops)).Perm ((List.range n).filter (isHeap ops)) := hp.filter _
      obtain ⟨σ, hσ, hσf⟩ : ∃ σ ∈ σ0 :: r, closeB ops (σ.filter (isHeap ops)) (τ.filter (isHeap ops)) = true := by
        rcases g3 _ (ugx _ _ hpi) with h | ⟨σ, hs, h⟩
        · have := uad hc (List.filter_sublist (p := isHeap ops))
          rw [this] at h
          cases h
        · exact ⟨σ, hs, h⟩
      have hrun : RunL c ops σ e H e' H' := by
        rcases List.mem_cons.mp hσ with rfl | hs
        · exact r0
        · obtain ⟨e2, H2, q1, q2⟩ := h2 σ hs
          obtain ⟨rfl, rfl⟩ := q2.det r0
          exact q1
      refine sortL τ σ e e' H H' hn ((hperm σ hσ).trans hp.symm) (fun x y s1 s2 => ?_) hrun
      have hcσ := (g2 σ hσ).2.2
      have b1 := u3t hcσ s1
      have b2 := u3t hc s2
      have hxy : x ≠ y := by
        have hnσ : σ.Nodup := (hperm σ hσ).nodup_iff.mpr List.nodup_range
        have := (s1.nodup hnσ)
        intro h
        subst h
        simp at this
      have hx : x < n := List.mem_range.mp ((hperm σ hσ).mem_iff.mp (s1.subset (by simp)))
      have hy : y < n := List.mem_range.mp ((hperm σ hσ).mem_iff.mp (s1.subset (by simp)))
      have both : isHeap ops x = true ∧ isHeap ops y = true → keepI ops x = true ∧ keepI ops y = true := by
        rintro ⟨p, q⟩
        have f1 : ([x, y].filter (isHeap ops)).Sublist (σ.filter (isHeap ops)) := s1.filter _
        have f2 : ([y, x].filter (isHeap ops)).Sublist (τ.filter (isHeap ops)) := s2.filter _
        simp only [List.filter_cons, p, q, if_true, List.filter_nil] at f1 f2
        rcases u6s hσf f1 with h | h
        · rw [u4u (hn.filter _) f2] at h; cases h
        · exact h
      have pr : ∀ {z oz}, ops[z]? = some oz → isHeap ops z = false → pureO oz = true := by
        intro z oz hz hh
        unfold isHeap isPure at hh
        rw [hz] at hh
        simpa using hh
      have sym : ∀ {u v : Oper}, apartE ops u v = true → apartE ops v u = true := by
        intro u v h
        unfold apartE at h ⊢
        rw [Bool.or_eq_true] at h ⊢
        rcases h with h | h
        · left
          obtain ⟨q1, q2, q3⟩ := u23 h
          unfold apartN
          simp only [Bool.and_eq_true, List.all_eq_true, Bool.not_eq_true', List.contains_eq_mem, decide_eq_false_iff_not]
          exact ⟨fun t ht => ⟨q3 t ht, fun h => q2 t h ht⟩, fun t ht => q1 t ht⟩
        · right
          obtain ⟨du, ou, tu, su, au, gu⟩ := u
          obtain ⟨dv, ov, tv, sv, av, gv⟩ := v
          unfold exPair at h
          split at h
          · rename_i s i t j a b e1 e2 e3 e4
            dsimp only at e1 e2 e3 e4
            subst e1 e2 e3 e4
            simp only [Bool.and_eq_true, beq_iff_eq, bne_iff_ne, ne_eq, Option.isNone_iff_eq_none] at h
            obtain ⟨rfl, hij, hab, has, hbs, rfl, rfl⟩ := h
            unfold exPair
            simp only [Bool.and_eq_true, beq_iff_eq, bne_iff_ne, ne_eq, Option.isNone_iff_eq_none]
            simp only [Ne.symm hij, Ne.symm hab, hbs, has, not_false_eq_true, and_self, beq_self_eq_true, Option.isNone_none, Bool.and_self, Bool.true_and, decide_true, Bool.not_false, decide_false]
          · cases h
      intro ox oy hox hoy
      have c1 := (u0o hcm hox).1
      have c2 := (u0o hcm hoy).1
      have hpure : (pureO ox = true ∨ pureO oy = true) ∨ (keepO ops ox = true ∧ keepO ops oy = true) := by
        cases p : isHeap ops x with
        | false => exact .inl (.inl (pr hox p))
        | true =>
          cases q : isHeap ops y with
          | false => exact .inl (.inr (pr hoy q))
          | true =>
            obtain ⟨k1, k2⟩ := both ⟨p, q⟩
            unfold keepI at k1 k2
            rw [hox] at k1
            rw [hoy] at k2
            exact .inr ⟨k1, k2⟩
      refine ⟨c1, c2, ?_, hpure⟩
      rcases Nat.lt_or_gt_of_ne hxy with hlt | hlt
      · rcases g4 y (List.mem_range.mpr hy) x (List.mem_range.mpr hlt) with h | h
        · rw [b2] at h; cases h
        · rw [hox, hoy] at h; exact h
      · rcases g4 x (List.mem_range.mpr hx) y (List.mem_range.mpr hlt) with h | h
        · rw [b1] at h; cases h
        · rw [hox, hoy] at h; exact sym h
def RP (c : Ctx) (ops : Array Oper) (e' : Env) (H' : Heap) (o1 : Out PV) (l : List Nat) (e : Env) (H : Heap) : Prop :=
  (∃ A, l = A ++ [ops.size - 1] ∧ (∀ k ∈ A, k < ops.size - 1) ∧ RL c ops e' H' A e H) ∨ (l = [] ∧ ∃ v o, ops[ops.size - 1]? = some o ∧ o1 = .ok v H ∧ e = put c.rc ops e' o v)
theorem RP.front (hl : lastB ops = true) {e' : Env} {H' : Heap} {o1 : Out PV} {ol : Oper} (hol : ops[ops.size - 1]? = some ol) (hok : okDst c.rc.isSome c.prot e' ol.dst = true) (hg : gval c.P c.C c.es c.rc ops e' ol H' = some o1)
    (A : List Nat) (i : Nat) (B : List Nat) (oi : Oper) (e : Env) (H : Heap) (hi : ops[i]? = some oi) (hnb : ∀ k ∈ A ++ B, ((befs ops.toList []).getD i 0).testBit k = false)
    (hR : RP c ops e' H' o1 (A ++ i :: B) e H) : okDst c.rc.isSome c.prot e oi.dst = true ∧ ∃ o2, gval c.P c.C c.es c.rc ops e oi H = some o2 ∧ (∀ v H1, o2 = .ok v H1 → RP c ops e' H' o1 (A ++ B) (put c.rc ops e oi v) H1) ∧ ∀ v H1, o2 = .pan v H1 → o1 = .pan v H1 := by
  rcases hR with ⟨A', hA, hlt, hR⟩ | ⟨h, _⟩
  · rcases List.eq_nil_or_concat B with rfl | ⟨B', x, rfl⟩
    · obtain ⟨rfl, h2⟩ := List.append_inj' hA rfl
      simp only [List.cons.injEq, and_true] at h2
      subst h2
      have hnil : A = [] := by
        cases A with
        | nil => rfl
        | cons k r =>
          exfalso
          have h1 := hnb k (by simp)
          unfold lastB at hl
          rw [hol] at hl
          simp only [Bool.and_eq_true, List.all_eq_true] at hl
          have h2 := hl.2 k (List.mem_range.mpr (hlt k (by simp)))
          rw [h1] at h2
          cases h2
      subst hnil
      obtain ⟨rfl, rfl⟩ := hR.nil
      rw [hol] at hi
      cases hi
      exact ⟨hok, o1, hg, fun v H1 he => .inr ⟨rfl, v, ol, hol, he, rfl⟩, fun v H1 he => he⟩
    · have h1 : A ++ i :: (B' ++ [x]) = (A ++ i :: B') ++ [x] := by simp
      rw [List.concat_eq_append, h1] at hA
      obtain ⟨h2, h3⟩ := List.append_inj' hA rfl
      simp only [List.cons.injEq, and_true] at h3
      subst h2 h3
      obtain ⟨k1, v, H1, k2, k3⟩ := RL.front A i B' oi e H hi (fun k hk => hnb k (by
        rw [List.concat_eq_append]
        rcases List.mem_append.mp hk with h | h
        · exact List.mem_append_left _ h
        · exact List.mem_append_right _ (List.mem_append_left _ h))) hR
      refine ⟨k1, _, k2, fun v' H' he => ?_, fun v' H' he => by cases he⟩
      cases he
      refine .inl ⟨A ++ B', by rw [List.concat_eq_append]; simp, fun k hk => hlt k ?_, k3⟩
      rcases List.mem_append.mp hk with h | h
      · exact List.mem_append_left _ h
      · exact List.mem_append_right _ (List.mem_cons_of_mem _ h)
  · simp at h
end Go.Proofs.YtjcffopjohkmaaaDoor.Pi
namespace Go.Proofs.YtjcffopjohkmaaaDoor.Pi
variable {c : Ctx} {ops : Array Oper} {H : Heap}
theorem u1u {e : Env} {o : Oper} {v : PV} (h : isAl o = false) : touchV e o v = touch e o := by unfold touchV; rw [h]; rfl
theorem u7i {e : Env} {o : Oper} {v : PV} {n : Nat} (h : touchV e o v = .al n) : isAl o = true := by
  cases ha : isAl o with
  | true => rfl
  | false => rw [u1u ha] at h; exact absurd h u9i
theorem ul6 {e : Env} {o : Oper} {H H' : Heap} {v : PV} (ha : isAl o = true) (h : gval c.P c.C c.es c.rc ops e o H = some (.ok v H')) :
    ∃ b, v = .ptr H.length 0 ∧ H' = H ++ [b] ∧ ∀ K, gval c.P c.C c.es c.rc ops e o K = some (.ok (.ptr K.length 0) (K ++ [b])) := by
  obtain ⟨dst, op, ty, pos, after, guard⟩ := o
  cases op with
  | alloc t =>
    have hg : guard.isNone = true := ha
    cases guard with
    | some q => simp at hg
    | none =>
      replace h : opVal c.P c.C c.es c.rc ops e ⟨dst, .alloc t, ty, pos, after, none⟩ H = some (.ok v H') := h
      have hLO := u21 rfl h
      have e0 : gval c.P c.C c.es c.rc ops e ⟨dst, .alloc t, ty, pos, after, none⟩ = bif decide (200 < tsize c.P t) then alZ c.P t else al (tzero c.P t).cells := u27 (C := c.C) (es := c.es) (rc := c.rc) (ops := ops) (e := e) hLO
      rw [e0]
      rw [u27 hLO] at h
      replace h : (bif decide (200 < tsize c.P t) then alZ c.P t else al (tzero c.P t).cells) H = some (.ok v H') := h
      cases hbig : decide (200 < tsize c.P t) with
      | true =>
        rw [hbig] at h
        simp only [cond_true] at h ⊢
        unfold alZ at h ⊢
        cases hz : (c.P.info? t).bind (·.zero) with
        | none => rw [hz] at h; cases h
        | some z =>
          rw [hz] at h
          simp only [Option.some.injEq, Out.ok.injEq] at h
          obtain ⟨rfl, rfl⟩ := h
          exact ⟨_, rfl, rfl, fun K => rfl⟩
      | false =>
      rw [hbig] at h
      simp only [cond_false] at h ⊢
      unfold al at h ⊢
      cases hc : (tzero c.P t).cells.all isCell with
      | false => rw [hc] at h; cases h
      | true =>
        rw [hc] at h
        simp only [cond_true, Option.some.injEq, Out.ok.injEq] at h
        obtain ⟨rfl, rfl⟩ := h
        exact ⟨_, rfl, rfl, fun K => rfl⟩
  | _ => cases ha
theorem uk1 {e : Env} {o : Oper} {H H' : Heap} {v : PV} {i : Nat} (h : gval c.P c.C c.es c.rc ops e o H = some (.ok v H')) (ht : touch e o = .ld i ∨ touch e o = .st i) (hq : quietO o = true) : i < H.length := by
  obtain ⟨dst, op, ty, pos, after, guard⟩ := o
  unfold quietO at hq
  cases op with
  | load t a =>
    cases guard with
    | some q => simp at hq
    | none =>
      replace h : opVal c.P c.C c.es c.rc ops e ⟨dst, .load t a, ty, pos, after, none⟩ H = some (.ok v H') := h
      rw [u27 (u21 rfl h)] at h
      have hg : guardM (known c.P t) (ld (tagg c.P t) (moves ops ⟨dst, .load t a, ty, pos, after, none⟩) (ev e a)) H = some (.ok v H') := h
      obtain ⟨_, hg⟩ := u02 hg
      have ht : tld (ev e a) = .ld i ∨ tld (ev e a) = .st i := ht
      cases hv : ev e a with
      | ptr id off =>
        rw [hv] at ht hg
        have : id = i := by rcases ht with h | h <;> simp [tld] at h; exact h
        subst this
        cases hb : H[id]? with
        | none =>
          exfalso
          unfold ld at hg
          simp only [hb] at hg
          cases hg
        | some b => exact (List.getElem?_eq_some_iff.mp hb).1
      | _ => rw [hv] at ht; rcases ht with h | h <;> simp [tld] at h
  | store t a x =>
    cases guard with
    | some q => simp at hq
    | none =>
      replace h : opVal c.P c.C c.es c.rc ops e ⟨dst, .store t a x, ty, pos, after, none⟩ H = some (.ok v H') := h
      rw [u27 (u21 rfl h)] at h
      have hg : guardM (known c.P t) (stG c.es (tsize c.P t) (tmpO x) (ev e a) (ev e x)) H = some (.ok v H') := h
      obtain ⟨_, hg⟩ := u02 hg
      have ht : tst (ev e a) = .ld i ∨ tst (ev e a) = .st i := ht
      cases hv : ev e a with
      | ptr id off =>
        rw [hv] at ht hg
        have : id = i := by rcases ht with h | h <;> simp [tst] at h; exact h
        subst this
        cases hb : H[id]? with
        | none =>
          exfalso
          unfold stG at hg
          simp only [hb] at hg
          cases hg
        | some b => exact (List.getElem?_eq_some_iff.mp hb).1
      | _ => rw [hv] at ht; rcases ht with h | h <;> simp [tst] at h
  | _ =>
    exfalso
    revert ht
    unfold touch
    dsimp only
    cases pureO _ <;> simp
def EffA (n : Nat) (τ : Touch) (f : Heap → Heap) : Prop := f = (fun K => K) ∨ (∃ i b, τ = .st i ∧ f = fun K => K.set i b) ∨ ∃ b, τ = .al n ∧ f = fun K => K ++ [b]
theorem uhg {o : Oper} {e : Env} {H H' : Heap} {v : PV} (hq : quietO o = true) (hg : gval c.P c.C c.es c.rc ops e o H = some (.ok v H')) (hs : u0e o = false → isAl o = false → H' = H) :
    ∃ f, EffA H.length (touchV e o v) f ∧ H' = f H ∧ (∀ K, agreeT (touchV e o v) H K → gval c.P c.C c.es c.rc ops e o K = some (.ok v (f K))) ∧ ∀ i, (touchV e o v = .ld i ∨ touchV e o v = .st i) → i < H.length := by
  cases ha : isAl o with
  | false =>
    rw [u1u ha]
    obtain ⟨f, h1, h2, h3⟩ := eff_of hq hg (fun h => hs h ha)
    refine ⟨f, ?_, h2, h3, fun i hi => uk1 hg hi hq⟩
    rcases h1 with h | ⟨i, b, h, k⟩
    · exact .inl h
    · exact .inr (.inl ⟨i, b, h, k⟩)
  | true =>
    obtain ⟨b, rfl, rfl, h3⟩ := ul6 ha hg
    have ht : touchV e o (.ptr H.length 0) = .al H.length := by unfold touchV; rw [ha]; rfl
    rw [ht]
    refine ⟨fun K => K ++ [b], .inr (.inr ⟨b, rfl, rfl⟩), rfl, fun K hK => ?_, fun i hi => by rcases hi with h | h <;> cases h⟩
    have hK : K.length = H.length := hK
    rw [← hK]
    exact h3 K
def StepA (c : Ctx) (ops : Array Oper) (H : Heap) (o : Oper) (e e' : Env) (H' : Heap) (τ : Touch) : Prop :=
  okDst c.rc.isSome c.prot e o.dst = true ∧ quietO o = true ∧ ∃ v, gval c.P c.C c.es c.rc ops e o H = some (.ok v H') ∧ e' = put c.rc ops e o v ∧ τ = touchV e o v ∧ (u0e o = false → isAl o = false → H' = H)
theorem ulb {x y : Oper} (h : exPair x y = true) : isAl x = false ∧ isAl y = false := by
  obtain ⟨d1, o1, t1, p1, a1, g1⟩ := x
  obtain ⟨d2, o2, t2, p2, a2, g2⟩ := y
  unfold exPair at h
  split at h
  · rename_i e1 e2 e3 e4
    dsimp only at e1 e2
    subst e1 e2
    exact ⟨rfl, rfl⟩
  · cases h
theorem swapA {x y : Oper} {e e1 e2 : Env} {H1 H2 : Heap} {τx τy : Touch} (hx : u05 x = false) (hy : u05 y = false) (ha : apartE ops x y = true) (hcl : clash τy τx = false)
    (h1 : StepA c ops H x e e1 H1 τx) (h2 : StepA c ops H1 y e1 e2 H2 τy) :
    ∃ e1' H1', StepA c ops H y e e1' H1' τy ∧ StepA c ops H1' x e1' e2 H2 τx := by
  obtain ⟨k1, q1, v, g1, rfl, rfl, s1⟩ := h1
  obtain ⟨k2, q2, u, g2, rfl, rfl, s2⟩ := h2
  unfold apartE at ha
  rw [Bool.or_eq_true] at ha
  rcases ha with ha | ha
  · obtain ⟨a1, a2, a3⟩ := u23 ha
    obtain ⟨fx, ex1, ex2, ex3, ex4⟩ := uhg q1 g1 s1
    obtain ⟨fy, ey1, ey2, ey3, ey4⟩ := uhg q2 g2 s2
    rw [u0h hx] at k2 g2 hcl ey1 ey3 ey4 ⊢
    rw [u0h hy]
    have agY : u1d (y.looksAt ops) (setAll e (u0k ops x e v)) e := fun t ht => u0f e _ fun p hp he => a1 p.1 (u09 p hp) (he ▸ ht)
    have agX : u1d (x.looksAt ops) (setAll e (u0k ops y e u)) e := fun t ht => u0f e _ fun p hp he => a3 p.1 (u09 p hp) (he ▸ ht)
    have tY : touchV (setAll e (u0k ops x e v)) y u = touchV e y u := by unfold touchV; rw [u2s agY]
    have tX : touchV (setAll e (u0k ops y e u)) x v = touchV e x v := by unfold touchV; rw [u2s agX]
    rw [tY] at hcl ey1 ey3 ey4 ⊢
    have gY := u1e (P := c.P) (C := c.C) (es := c.es) (rc := c.rc) hy agY
    have gX := u1e (P := c.P) (C := c.C) (es := c.es) (rc := c.rc) hx agX
    have agr : ∀ {τ : Touch} {K : Heap}, agreeT τ K K := by
      intro τ K
      cases τ <;> first | exact True.intro | rfl
    -- y ahead of x
    have hy0 : agreeT (touchV e y u) (fx H) H := by
      rcases ex1 with rfl | ⟨i, b, h1, rfl⟩ | ⟨b, h1, rfl⟩
      · exact agr
      · rw [h1] at hcl
        cases hty : touchV e y u with
        | no => exact True.intro
        | ld j =>
          rw [hty] at hcl
          have hcl : (i == j) = false := hcl
          show H[j]? = (H.set i b)[j]?
          rw [List.getElem?_set_ne (by simpa using hcl)]
        | st j =>
          rw [hty] at hcl
          have hcl : (i == j) = false := hcl
          show H[j]? = (H.set i b)[j]?
          rw [List.getElem?_set_ne (by simpa using hcl)]
        | any => rw [hty] at hcl; cases hcl
        | al n => show H.length = (H.set i b).length; rw [List.length_set]
      · rw [h1] at hcl
        cases hty : touchV e y u with
        | no => exact True.intro
        | ld j =>
          rw [hty] at hcl
          have hcl : decide (H.length ≤ j) = false := hcl
          have hj : j < H.length := by have := of_decide_eq_false hcl; omega
          show H[j]? = (H ++ [b])[j]?
          rw [List.getElem?_append_left hj]
        | st j =>
          rw [hty] at hcl
          have hcl : decide (H.length ≤ j) = false := hcl
          have hj : j < H.length := by have := of_decide_eq_false hcl; omega
          show H[j]? = (H ++ [b])[j]?
          rw [List.getElem?_append_left hj]
        | any => rw [hty] at hcl; cases hcl
        | al n => rw [hty] at hcl; cases hcl
    have yH : gval c.P c.C c.es c.rc ops e y H = some (.ok u (fy H)) := by
      rw [← gY]
      refine ey3 H ?_
      rw [ex2]
      exact hy0
    have hx0 : agreeT (touchV e x v) H (fy H) := by
      rcases ey1 with rfl | ⟨j, b, h1, rfl⟩ | ⟨b, h1, rfl⟩
      · exact agr
      · rw [h1] at hcl
        cases htx : touchV e x v with
        | no => exact True.intro
        | ld i =>
          rw [htx] at hcl
          have hcl : (i == j) = false := hcl
          have hne : i ≠ j := by simpa using hcl
          show (H.set j b)[i]? = H[i]?
          rw [List.getElem?_set_ne (fun h => hne h.symm)]
        | st i =>
          rw [htx] at hcl
          have hcl : (i == j) = false := hcl
          have hne : i ≠ j := by simpa using hcl
          show (H.set j b)[i]? = H[i]?
          rw [List.getElem?_set_ne (fun h => hne h.symm)]
        | any => rw [htx] at hcl; cases hcl
        | al n => show (H.set j b).length = H.length; rw [List.length_set]
      · rw [h1] at hcl
        cases htx : touchV e x v with
        | no => exact True.intro
        | ld i =>
          have := ex4 i (.inl htx)
          show (H ++ [b])[i]? = H[i]?
          rw [List.getElem?_append_left this]
        | st i =>
          have := ex4 i (.inr htx)
          show (H ++ [b])[i]? = H[i]?
          rw [List.getElem?_append_left this]
        | any => rw [htx] at hcl; cases hcl
        | al n => rw [htx] at hcl; cases hcl
    have xH : gval c.P c.C c.es c.rc ops (setAll e (u0k ops y e u)) x (fy H) = some (.ok v (fx (fy H))) := by
      rw [gX]
      exact ex3 _ hx0
    have hcomm : fx (fy H) = H2 := by
      rw [ey2, ex2]
      rcases ex1 with rfl | ⟨i, b, h1, rfl⟩ | ⟨b, h1, rfl⟩
      · rfl
      · have hi := ex4 i (.inr h1)
        rcases ey1 with rfl | ⟨j, b', h2, rfl⟩ | ⟨b', h2, rfl⟩
        · rfl
        · rw [h1, h2] at hcl
          have hcl : (i == j) = false := hcl
          have hne : i ≠ j := by simpa using hcl
          exact List.set_comm _ _ (fun h => hne h.symm)
        · show (H ++ [b']).set i b = H.set i b ++ [b']
          rw [List.set_append_left _ _ hi]
      · rcases ey1 with rfl | ⟨j, b', h2, rfl⟩ | ⟨b', h2, rfl⟩
        · rfl
        · rw [h1, h2] at hcl
          have hcl : decide (H.length ≤ j) = false := hcl
          have hj : j < H.length := by have := of_decide_eq_false hcl; omega
          show H.set j b' ++ [b] = (H ++ [b]).set j b'
          rw [List.set_append_left _ _ hj]
        · rw [h1, h2] at hcl
          cases hcl
    refine ⟨setAll e (u0k ops y e u), fy H, ⟨?_, q2, u, yH, (u0h hy).symm, rfl, fun hs ha' => ?_⟩, ⟨?_, q1, v, ?_, ?_, tX.symm, fun hs ha' => ?_⟩⟩
    · rw [← k2]
      refine u0v (by rw [u0u]) fun t ht => (u0f e _ fun p hp he => ?_).symm
      refine a2 p.1 (u09 p hp) ?_
      rw [he]
      exact List.mem_append_left _ (by rw [ht]; simp)
    · rcases ey1 with rfl | ⟨j, b, h1, rfl⟩ | ⟨b, h1, rfl⟩
      · rfl
      · exfalso
        rw [u1u ha'] at h1
        obtain ⟨dst, op, ty, pos, after, guard⟩ := y
        cases op with
        | store t a x => cases hs
        | load t a =>
          have h1 : tld (ev e a) = .st j := h1
          cases hv : ev e a <;> rw [hv] at h1 <;> cases h1
        | _ =>
          revert h1
          unfold touch
          dsimp only
          cases pureO _ <;> intro h1 <;> cases h1
      · rw [u7i h1] at ha'; cases ha'
    · rw [← k1]
      refine u0v (by rw [u0u]) fun t ht => u0f e _ fun p hp he => ?_
      refine a2 t (List.mem_append_left _ (by rw [ht]; simp)) ?_
      rw [← he]
      exact u09 p hp
    · rw [xH, hcomm]
    · rw [u0h hx, u0z agX, u0z agY]
      exact u2q e _ _ fun p hp q hq he => a2 p.1 (u09 p hp) (he ▸ u09 q hq)
    · rw [← hcomm]
      rcases ex1 with rfl | ⟨i, b, h1, rfl⟩ | ⟨b, h1, rfl⟩
      · rfl
      · exfalso
        rw [u1u ha'] at h1
        obtain ⟨dst, op, ty, pos, after, guard⟩ := x
        cases op with
        | store t a x => cases hs
        | load t a =>
          have h1 : tld (ev e a) = .st i := h1
          cases hv : ev e a <;> rw [hv] at h1 <;> cases h1
        | _ =>
          revert h1
          unfold touch
          dsimp only
          cases pureO _ <;> intro h1 <;> cases h1
      · rw [u7i h1] at ha'; cases ha'
  · obtain ⟨b1, b2⟩ := ulb ha
    obtain ⟨r1, r2, r3, r4, r5, r6, r7, r8, r9⟩ := exSwap ha g1 g2 k1 k2
    subst r1 r2
    refine ⟨_, _, ⟨r3, q2, u, r5 _, rfl, ?_, fun _ _ => rfl⟩, ⟨r4, q1, v, r6 _, r7.symm, ?_, fun _ _ => rfl⟩⟩
    · rw [u1u b2, u1u b2, r9, r9]
    · rw [u1u b1, u1u b1, r8, r8]
def RunA (c : Ctx) (ops : Array Oper) : List (Nat × Touch) → Env → Heap → Env → Heap → Prop
  | [], e, H, e', H' => e = e' ∧ H = H'
  | (i, τ) :: r, e, H, e', H' => ∃ o e1 H1, ops[i]? = some o ∧ StepA c ops H o e e1 H1 τ ∧ RunA c ops r e1 H1 e' H'
theorem frontA {i : Nat} {τ : Touch} {oi : Oper} (hi : ops[i]? = some oi) (hri : u05 oi = false) (hr : ∀ (j : Nat) (o : Oper), ops[j]? = some o → u05 o = false) : ∀ (A B : List (Nat × Touch)) (e e' : Env) (H H' : Heap),
    (∀ a ∈ A, (∀ oa, ops[a.1]? = some oa → apartE ops oa oi = true) ∧ clash τ a.2 = false) → RunA c ops (A ++ (i, τ) :: B) e H e' H' → RunA c ops ((i, τ) :: (A ++ B)) e H e' H'
  | [], B, e, e', H, H', ha, h => h
  | (a, σ) :: A, B, e, e', H, H', ha, h => by
    obtain ⟨oa, e1, H1, hoa, hs, hrun⟩ := h
    obtain ⟨o, e2, H2, ho, hs2, hrun2⟩ := frontA hi hri hr A B e1 e' H1 H' (fun b hb => ha b (List.mem_cons_of_mem _ hb)) hrun
    rw [hi] at ho
    cases ho
    obtain ⟨b1, b2⟩ := ha (a, σ) List.mem_cons_self
    obtain ⟨e1', H1', s1, s2⟩ := swapA (hr a oa hoa) hri (b1 oa hoa) b2 hs hs2
    exact ⟨oi, e1', H1', hi, s1, oa, e2, H2, hoa, s2, hrun2⟩
def PairA (ops : Array Oper) (x y : Nat × Touch) : Prop := ((befs ops.toList []).getD y.1 0).testBit x.1 = true ∨ (clash y.2 x.2 = false ∨ (isAlT y.2 = true ∧ isAlT x.2 = true))
theorem u9k {β : Type} {k : Env → M β} {out : Out β} : ∀ (l : List Nat) (ts : List (Nat × Touch)) (env : Env) (H : Heap), dOpsA c ops l ts env k H = some out →
    ∃ e' H' L, L.map Prod.fst = l ∧ (∀ q ∈ L, ∀ t ∈ ts, PairA ops t q) ∧ L.Pairwise (PairA ops) ∧ RunA c ops L env H e' H' ∧ k e' H' = some out
  | [], ts, env, H, h => ⟨env, H, [], rfl, (fun q hq => by cases hq), List.Pairwise.nil, ⟨rfl, rfl⟩, h⟩
  | i :: r, ts, env, H, h => by
    unfold dOpsA at h
    cases ho : ops[i]? with
    | none => rw [ho] at h; exact (u00 (H := H) h).elim
    | some o =>
      rw [ho] at h
      dsimp only at h
      obtain ⟨hok, h⟩ := u3n h
      rw [Bool.and_eq_true] at hok
      obtain ⟨hok, hq⟩ := hok
      have key : ∃ v H1, gval c.P c.C c.es c.rc ops env o H = some (.ok v H1) ∧ (u0e o = false → isAl o = false → H1 = H) ∧ guardM (u5v (befs ops.toList []) i (touchV env o v) ts) (dOpsA c ops r ((i, touchV env o v) :: ts) (put c.rc ops env o v) k) H1 = some out := by
        cases hst : (u0e o || isAl o) with
        | true =>
          rw [hst] at h
          have h : M.bind (noPan (gval c.P c.C c.es c.rc ops env o)) _ H = some out := h
          unfold M.bind noPan at h
          cases hm : gval c.P c.C c.es c.rc ops env o H with
          | none => rw [hm] at h; cases h
          | some q =>
            rw [hm] at h
            cases q with
            | ok v H' => exact ⟨v, H', rfl, (fun h1 h2 => by rw [h1, h2] at hst; cases hst), h⟩
            | pan v H' => cases h
        | false =>
          rw [hst] at h
          obtain ⟨v, h1, h2⟩ := nb_some.mp h
          exact ⟨v, H, h1, fun _ _ => rfl, h2⟩
      obtain ⟨v, H1, hg, hs, h2⟩ := key
      obtain ⟨hcl, h2⟩ := u3n h2
      unfold u5v at hcl
      simp only [List.all_eq_true, Bool.or_eq_true, Bool.not_eq_true', Bool.and_eq_true] at hcl
      obtain ⟨e', H', L, l1, l2, l3, l4, l5⟩ := u9k r ((i, touchV env o v) :: ts) _ H1 h2
      refine ⟨e', H', (i, touchV env o v) :: L, by rw [List.map_cons, l1], fun q hq t ht => ?_, List.pairwise_cons.mpr ⟨fun q hq => l2 q hq _ List.mem_cons_self, l3⟩, ⟨o, _, H1, ho, ⟨hok, hq, v, hg, rfl, rfl, hs⟩, l4⟩, l5⟩
      rcases List.mem_cons.mp hq with rfl | hq
      · exact hcl t ht
      · exact l2 q hq t (List.mem_cons_of_mem _ ht)
theorem uh5 : ∀ (L : List (Nat × Touch)) (e e' : Env) (H H' : Heap), RunA c ops L e H e' H' → ∀ q ∈ L, isAlT q.2 = true → ∃ o, ops[q.1]? = some o ∧ isAl o = true
  | (i, τ) :: r, e, e', H, H', h, q, hq, hal => by
    obtain ⟨o, e1, H1, ho, ⟨_, _, v, _, _, rfl, _⟩, hr⟩ := h
    rcases List.mem_cons.mp hq with rfl | hq
    · refine ⟨o, ho, ?_⟩
      dsimp only at hal
      cases ht : touchV e o v with
      | al n => exact u7i ht
      | _ => rw [ht] at hal; cases hal
    · exact uh5 r e1 e' H1 H' hr q hq hal
theorem ue4 : ∀ {L L' : List (Nat × Touch)} {e e1 e2 : Env} {H H1 H2 : Heap}, RunA c ops L e H e1 H1 → RunA c ops L' e H e2 H2 → L.map Prod.fst = L'.map Prod.fst → e1 = e2 ∧ H1 = H2
  | [], [], e, e1, e2, H, H1, H2, h, k, _ => by
    obtain ⟨rfl, rfl⟩ := h
    obtain ⟨rfl, rfl⟩ := k
    exact ⟨rfl, rfl⟩
  | [], q :: r, _, _, _, _, _, _, _, _, h => by cases h
  | q :: r, [], _, _, _, _, _, _, _, _, h => by cases h
  | (i, τ) :: r, (j, σ) :: s, e, e1, e2, H, H1, H2, h, k, hm => by
    simp only [List.map_cons, List.cons.injEq] at hm
    obtain ⟨rfl, hm⟩ := hm
    obtain ⟨o, f1, K1, ho, ⟨_, _, v, hg, rfl, _, _⟩, hr⟩ := h
    obtain ⟨o', f2, K2, ho', ⟨_, _, v', hg', rfl, _, _⟩, hr'⟩ := k
    rw [ho] at ho'
    cases ho'
    rw [hg] at hg'
    cases hg'
    exact ue4 hr hr' hm
theorem uci {env : Env} {k : Env → M PV} {o : Out PV} (h : dOpsAA c ops env k H = some o) : ∃ a1 a2, alsOf ops = [a1, a2] ∧ chkA (dOpsA c ops (mvL a1 a2 (List.range ops.size)) [] env M.pure) (dOpsA c ops (List.range ops.size) [] env M.pure) (dOpsA c ops (List.range ops.size) [] env k) H = some o := by
  unfold dOpsAA at h
  generalize alsOf ops = l at h
  match l, h with
  | [a1, a2], h => exact ⟨a1, a2, rfl, h⟩
  | [], h => exact (u00 (H := H) h).elim
  | [_], h => exact (u00 (H := H) h).elim
  | _ :: _ :: _ :: _, h => exact (u00 (H := H) h).elim
theorem ufg (h : modeA ops = true) {a1 a2 : Nat} (hals : alsOf ops = [a1, a2]) : consA (befs ops.toList []) (mvL a1 a2 (List.range ops.size)) = true := by
  unfold modeA at h
  rw [hals] at h
  simp only [Bool.and_eq_true] at h
  exact h.2.2.2
def RA (c : Ctx) (ops : Array Oper) (e' : Env) (H' : Heap) (l : List Nat) (e : Env) (H : Heap) : Prop :=
  ∃ L : List (Nat × Touch), L.map Prod.fst = l ∧ L.Pairwise (PairA ops) ∧ RunA c ops L e H e' H'
theorem RA.nil {e' e : Env} {H' H : Heap} (h : RA c ops e' H' [] e H) : e = e' ∧ H = H' := by
  obtain ⟨L, h1, h2, h3⟩ := h
  cases L with
  | nil => exact h3
  | cons q r => cases h1
theorem RA.front (hr : ∀ (j : Nat) (o : Oper), ops[j]? = some o → u05 o = false) {e' : Env} {H' : Heap} (A : List Nat) (i : Nat) (B : List Nat) (oi : Oper) (e : Env) (H : Heap) (hi : ops[i]? = some oi) (ha : ∀ a ∈ A, ∀ oa, ops[a]? = some oa → apartE ops oa oi = true)
    (hnb : ∀ k ∈ A, ((befs ops.toList []).getD i 0).testBit k = false) (hal : isAl oi = true → ∀ a ∈ A, ∀ oa, ops[a]? = some oa → isAl oa = false) (hR : RA c ops e' H' (A ++ i :: B) e H) :
    okDst c.rc.isSome c.prot e oi.dst = true ∧ ∃ v H1, gval c.P c.C c.es c.rc ops e oi H = some (.ok v H1) ∧ RA c ops e' H' (A ++ B) (put c.rc ops e oi v) H1 := by
  obtain ⟨L, h1, h2, h3⟩ := hR
  obtain ⟨LA, LB, rfl, hA, hB⟩ := List.map_eq_append_iff.mp h1
  cases LB with
  | nil => cases hB
  | cons q LB =>
    obtain ⟨j, τ⟩ := q
    simp only [List.map_cons, List.cons.injEq] at hB
    obtain ⟨rfl, hB⟩ := hB
    have hp := List.pairwise_append.mp h2
    have hq := uh5 _ _ _ _ _ h3
    obtain ⟨o, e1, H1, ho, ⟨hok, _, v, hg, rfl, _, hs⟩, hrun⟩ := frontA hi (hr j oi hi) hr LA LB e e' H H' (fun a ham => ⟨fun oa hoa => ha a.1 (by rw [← hA]; exact List.mem_map_of_mem ham) oa hoa, by
      have haA : a.1 ∈ A := by rw [← hA]; exact List.mem_map_of_mem ham
      rcases hp.2.2 a ham _ List.mem_cons_self with g | g | ⟨g1, g2⟩
      · rw [hnb a.1 haA] at g; cases g
      · exact g
      · exfalso
        obtain ⟨o1, k1, k2⟩ := hq (j, τ) (List.mem_append_right _ List.mem_cons_self) g1
        obtain ⟨o2, k3, k4⟩ := hq a (List.mem_append_left _ ham) g2
        rw [hi] at k1
        cases k1
        rw [hal k2 a.1 haA o2 k3] at k4
        cases k4⟩) h3
    rw [hi] at ho
    cases ho
    refine ⟨hok, v, H1, hg, LA ++ LB, by rw [List.map_append, hA, hB], ?_, hrun⟩
    exact List.pairwise_append.mpr ⟨hp.1, (List.pairwise_cons.mp hp.2.1).2, fun a ha b hb => hp.2.2 a ha b (List.mem_cons_of_mem _ hb)⟩
theorem uck {u v : Oper} (h : apartE ops u v = true) : apartE ops v u = true := by
  unfold apartE at h ⊢
  rw [Bool.or_eq_true] at h ⊢
  rcases h with h | h
  · left
    obtain ⟨q1, q2, q3⟩ := u23 h
    unfold apartN
    simp only [Bool.and_eq_true, List.all_eq_true, Bool.not_eq_true', List.contains_eq_mem, decide_eq_false_iff_not]
    exact ⟨fun t ht => ⟨q3 t ht, fun h => q2 t h ht⟩, fun t ht => q1 t ht⟩
  · right
    obtain ⟨du, ou, tu, su, au, gu⟩ := u
    obtain ⟨dv, ov, tv, sv, av, gv⟩ := v
    unfold exPair at h
    split at h
    · rename_i s i t j a b e1 e2 e3 e4
      dsimp only at e1 e2 e3 e4
      subst e1 e2 e3 e4
      simp only [Bool.and_eq_true, beq_iff_eq, bne_iff_ne, ne_eq, Option.isNone_iff_eq_none] at h
      obtain ⟨rfl, hij, hab, has, hbs, rfl, rfl⟩ := h
      unfold exPair
      simp only [Bool.and_eq_true, beq_iff_eq, bne_iff_ne, ne_eq, Option.isNone_iff_eq_none]
      simp only [Ne.symm hij, Ne.symm hab, hbs, has, not_false_eq_true, and_self, beq_self_eq_true, Option.isNone_none, Bool.and_self, Bool.true_and, decide_true, Bool.not_false, decide_false]
    · cases h
theorem u8v {b : List Nat} : ∀ {l : List Nat}, consA b l = true → ∀ {X Y : List Nat} {x y : Nat}, l = X ++ x :: Y → y ∈ Y → (b.getD x 0).testBit y = false
  | [], h, X, Y, x, y, he, hy => by simp at he
  | i :: r, h, [], Y, x, y, he, hy => by
    simp only [List.nil_append, List.cons.injEq] at he
    obtain ⟨rfl, rfl⟩ := he
    unfold consA at h
    simp only [Bool.and_eq_true, List.all_eq_true, Bool.not_eq_true'] at h
    exact h.1 y hy
  | i :: r, h, z :: X, Y, x, y, he, hy => by
    simp only [List.cons_append, List.cons.injEq] at he
    obtain ⟨rfl, rfl⟩ := he
    unfold consA at h
    simp only [Bool.and_eq_true] at h
    exact u8v h.2 rfl hy
theorem u2j (a1 a2 : Nat) (l m : List Nat) : mvL a1 a2 (l ++ m) = mvL a1 a2 l ++ mvL a1 a2 m := by unfold mvL; rw [List.flatMap_append]
theorem u41 (a1 a2 i : Nat) (l : List Nat) : mvL a1 a2 (i :: l) = (bif i == a1 then [a2, a1] else bif i == a2 then [] else [i]) ++ mvL a1 a2 l := rfl
theorem mvL_id {a1 a2 : Nat} : ∀ {l : List Nat}, a1 ∉ l → a2 ∉ l → mvL a1 a2 l = l
  | [], _, _ => rfl
  | i :: l, h1, h2 => by
    rw [u41, mvL_id (fun h => h1 (List.mem_cons_of_mem _ h)) (fun h => h2 (List.mem_cons_of_mem _ h))]
    have e1 : (i == a1) = false := beq_false_of_ne fun h => h1 (by rw [h]; exact List.mem_cons_self)
    have e2 : (i == a2) = false := beq_false_of_ne fun h => h2 (by rw [h]; exact List.mem_cons_self)
    rw [e1, e2]
    rfl
theorem uh7 {a1 a2 x : Nat} : ∀ {l : List Nat}, x ∈ mvL a1 a2 l → x ∈ l ∨ (x = a2 ∧ a1 ∈ l)
  | i :: l, h => by
    rw [u41] at h
    rcases List.mem_append.mp h with h | h
    · cases e1 : (i == a1) with
      | true =>
        rw [e1] at h
        have hi : i = a1 := beq_iff_eq.mp e1
        simp only [cond_true, List.mem_cons, List.not_mem_nil, or_false] at h
        rcases h with rfl | rfl
        · exact .inr ⟨rfl, by rw [hi]; exact List.mem_cons_self⟩
        · exact .inl (by rw [hi]; exact List.mem_cons_self)
      | false =>
        rw [e1] at h
        cases e2 : (i == a2) with
        | true => rw [e2] at h; cases h
        | false =>
          rw [e2] at h
          simp only [cond_false, List.mem_cons, List.not_mem_nil, or_false] at h
          exact .inl (by rw [h]; exact List.mem_cons_self)
    · rcases uh7 h with h | ⟨h1, h2⟩
      · exact .inl (List.mem_cons_of_mem _ h)
      · exact .inr ⟨h1, List.mem_cons_of_mem _ h2⟩
def RB (c : Ctx) (ops : Array Oper) (a1 a2 : Nat) (e1 : Env) (H1 : Heap) (e2 : Env) (H2 : Heap) (l : List Nat) (e : Env) (H : Heap) : Prop :=
  l.Pairwise (· < ·) ∧ (∀ i ∈ l, i < ops.size) ∧ ((a1 ∈ l ∧ a2 ∈ l ∧ RA c ops e1 H1 l e H ∧ RA c ops e2 H2 (mvL a1 a2 l) e H) ∨ (¬ (a1 ∈ l ∧ a2 ∈ l) ∧ (RA c ops e1 H1 l e H ∨ RA c ops e2 H2 l e H)))
theorem RB.front (hcm : commB ops = true) {a1 a2 : Nat} (h12 : a1 < a2) (hal : ∀ i o, ops[i]? = some o → isAl o = true → i = a1 ∨ i = a2) (hcons : consA (befs ops.toList []) (mvL a1 a2 (List.range ops.size)) = true)
    {e1 : Env} {H1 : Heap} {e2 : Env} {H2 : Heap} (A : List Nat) (i : Nat) (B : List Nat) (oi : Oper) (e : Env) (H : Heap) (hi : ops[i]? = some oi) (ha : ∀ a ∈ A, ∀ oa, ops[a]? = some oa → apartE ops oa oi = true)
    (hnb : ∀ k ∈ A ++ B, ((befs ops.toList []).getD i 0).testBit k = false) (hR : RB c ops a1 a2 e1 H1 e2 H2 (A ++ i :: B) e H) :
    okDst c.rc.isSome c.prot e oi.dst = true ∧ ∃ v K, gval c.P c.C c.es c.rc ops e oi H = some (.ok v K) ∧ RB c ops a1 a2 e1 H1 e2 H2 (A ++ B) (put c.rc ops e oi v) K := by
  obtain ⟨hsort, hlt, hR⟩ := hR
  have hr : ∀ (j : Nat) (o : Oper), ops[j]? = some o → u05 o = false := fun j o hj => (u0o hcm hj).1
  have hs := List.pairwise_append.mp hsort
  have hsub : (A ++ B).Sublist (A ++ i :: B) := List.Sublist.append (List.Sublist.refl _) (List.sublist_cons_self _ _)
  have hsort' : (A ++ B).Pairwise (· < ·) := hsort.sublist hsub
  have hlt' : ∀ j ∈ A ++ B, j < ops.size := fun j hj => hlt j (hsub.subset hj)
  have hAi : ∀ a ∈ A, a < i := fun a h => hs.2.2 a h i List.mem_cons_self
  have hBi : ∀ b ∈ B, i < b := fun b h => (List.pairwise_cons.mp hs.2.1).1 b h
  have hnA : ∀ k ∈ A, ((befs ops.toList []).getD i 0).testBit k = false := fun k h => hnb k (List.mem_append_left _ h)
  rcases hR with ⟨m1, m2, hRA, hRB⟩ | ⟨hnot, hRR⟩
  · by_cases hi1 : i = a1
    · subst hi1
      obtain ⟨k1, v, K, k2, k3⟩ := RA.front hr A i B oi e H hi ha hnA (fun _ a haA oa hoa => by
        cases hq : isAl oa with
        | false => rfl
        | true =>
          have := hAi a haA
          rcases hal a oa hoa hq with h | h <;> omega) hRA
      refine ⟨k1, v, K, k2, hsort', hlt', .inr ⟨fun h => ?_, .inl k3⟩⟩
      rcases List.mem_append.mp h.1 with h | h
      · have := hAi _ h; omega
      · have := hBi _ h; omega
    · by_cases hi2 : i = a2
      · subst hi2
        have hA1 : a1 ∈ A := by
          rcases List.mem_append.mp m1 with h | h
          · exact h
          · rcases List.mem_cons.mp h with h | h
            · omega
            · have := hBi _ h; omega
        obtain ⟨A1, A2, rfl⟩ := List.append_of_mem hA1
        have hsA := List.pairwise_append.mp hs.1
        have n1 : ∀ x ∈ A1, x < a1 := fun x hx => hsA.2.2 x hx a1 List.mem_cons_self
        have n2 : ∀ x ∈ A2, a1 < x := fun x hx => (List.pairwise_cons.mp hsA.2.1).1 x hx
        have n3 : ∀ x ∈ A2, x < i := fun x hx => hAi x (List.mem_append_right _ (List.mem_cons_of_mem _ hx))
        have e1 : mvL a1 i (A1 ++ a1 :: A2 ++ i :: B) = A1 ++ i :: (a1 :: A2 ++ B) := by
          rw [u2j, u2j, u41, u41, mvL_id (l := A1) (fun h => by have := n1 _ h; omega) (fun h => by have := n1 _ h; omega), mvL_id (l := A2) (fun h => by have := n2 _ h; omega) (fun h => by have := n3 _ h; omega), mvL_id (l := B) (fun h => by have := hBi _ h; omega) (fun h => by have := hBi _ h; omega)]
          have q1 : (a1 == a1) = true := beq_self_eq_true _
          have q2 : (i == a1) = false := beq_false_of_ne hi1
          have q3 : (i == i) = true := beq_self_eq_true _
          rw [q1, q2, q3]
          simp
        rw [e1] at hRB
        obtain ⟨k1, v, K, k2, k3⟩ := RA.front hr A1 i (a1 :: A2 ++ B) oi e H hi (fun a h => ha a (List.mem_append_left _ h)) (fun k h => hnA k (List.mem_append_left _ h)) (fun _ a haA oa hoa => by
          cases hq : isAl oa with
          | false => rfl
          | true =>
            have := n1 a haA
            rcases hal a oa hoa hq with h | h <;> omega) hRB
        refine ⟨k1, v, K, k2, hsort', hlt', .inr ⟨fun h => ?_, .inr ?_⟩⟩
        · rcases List.mem_append.mp h.2 with h | h
          · have := hAi _ h; omega
          · have := hBi _ h; omega
        · have : A1 ++ (a1 :: A2 ++ B) = A1 ++ a1 :: A2 ++ B := by simp
          rw [this] at k3
          exact k3
      · have hna : isAl oi = false := by
          cases hq : isAl oi with
          | false => rfl
          | true => rcases hal i oi hi hq with h | h <;> contradiction
        obtain ⟨k1, v, K, k2, k3⟩ := RA.front hr A i B oi e H hi ha hnA (fun h => by rw [hna] at h; cases h) hRA
        have e1 : mvL a1 a2 (A ++ i :: B) = mvL a1 a2 A ++ i :: mvL a1 a2 B := by
          rw [u2j, u41]
          have q1 : (i == a1) = false := beq_false_of_ne hi1
          have q2 : (i == a2) = false := beq_false_of_ne hi2
          rw [q1, q2]
          rfl
        rw [e1] at hRB
        have hA2 : ∀ x ∈ mvL a1 a2 A, x ∈ A ∨ (x = a2 ∧ a2 ∈ B ∧ a1 ∈ A) := fun x hx => by
          rcases uh7 hx with h | ⟨rfl, h⟩
          · exact .inl h
          · rcases List.mem_append.mp m2 with h2 | h2
            · exact .inl h2
            · rcases List.mem_cons.mp h2 with h3 | h3
              · exact absurd h3.symm hi2
              · exact .inr ⟨rfl, h3, h⟩
        obtain ⟨k1', v', K', k2', k3'⟩ := RA.front hr (mvL a1 a2 A) i (mvL a1 a2 B) oi e H hi (fun x hx oa hoa => by
          rcases hA2 x hx with h | ⟨rfl, hB2, hA1⟩
          · exact ha x h oa hoa
          · have hix := hBi _ hB2
            rcases (u0o hcm hoa).2.2.2 i oi hix hi with h | h
            · exfalso
              have hil : i < ops.size := hlt i (by simp)
              have ha1 : a1 < i := hAi _ hA1
              -- the second variable stands ahead of i in the other order
              have hsp : ∃ X Y, mvL a1 x (List.range ops.size) = X ++ x :: Y ∧ i ∈ Y := by
                have hr1 : List.range ops.size = List.range a1 ++ a1 :: List.range' (a1 + 1) (ops.size - a1 - 1) := by
                  have := List.range_eq_range' (n := ops.size)
                  rw [List.range_eq_range', List.range_eq_range']
                  have e2 : List.range' 0 ops.size = List.range' 0 a1 ++ List.range' (0 + 1 * a1) (ops.size - a1) := by
                    rw [List.range'_append]
                    congr 1
                    omega
                  rw [e2]
                  congr 1
                  have e3 : ops.size - a1 = (ops.size - a1 - 1) + 1 := by omega
                  rw [e3, List.range'_succ]
                  simp
                refine ⟨mvL a1 x (List.range a1), a1 :: mvL a1 x (List.range' (a1 + 1) (ops.size - a1 - 1)), ?_, ?_⟩
                · rw [hr1, u2j, u41]
                  have q1 : (a1 == a1) = true := beq_self_eq_true _
                  rw [q1]
                  rfl
                · refine List.mem_cons_of_mem _ ?_
                  unfold mvL
                  rw [List.mem_flatMap]
                  refine ⟨i, ?_, ?_⟩
                  · rw [List.mem_range'_1]
                    omega
                  · have q1 : (i == a1) = false := beq_false_of_ne hi1
                    have q2 : (i == x) = false := beq_false_of_ne hi2
                    rw [q1, q2]
                    exact List.mem_cons_self
              obtain ⟨X, Y, hX, hY⟩ := hsp
              have := u8v hcons hX hY
              rw [this] at h
              cases h
            · exact uck h) (fun x hx => by
          rcases hA2 x hx with h | ⟨rfl, hB2, _⟩
          · exact hnA x h
          · exact hnb x (List.mem_append_right _ hB2)) (fun h => by rw [hna] at h; cases h) hRB
        rw [k2] at k2'
        cases k2'
        refine ⟨k1, v, K, k2, hsort', hlt', .inl ⟨?_, ?_, k3, by rw [u2j]; exact k3'⟩⟩
        · rcases List.mem_append.mp m1 with h | h
          · exact List.mem_append_left _ h
          · rcases List.mem_cons.mp h with h | h
            · exact absurd h.symm hi1
            · exact List.mem_append_right _ h
        · rcases List.mem_append.mp m2 with h | h
          · exact List.mem_append_left _ h
          · rcases List.mem_cons.mp h with h | h
            · exact absurd h.symm hi2
            · exact List.mem_append_right _ h
  · have hal' : isAl oi = true → ∀ a ∈ A, ∀ oa, ops[a]? = some oa → isAl oa = false := fun h a haA oa hoa => by
      cases hq : isAl oa with
      | false => rfl
      | true =>
        exfalso
        have := hAi a haA
        refine hnot ?_
        rcases hal i oi hi h with h1 | h1 <;> rcases hal a oa hoa hq with h2 | h2 <;> subst h1 h2
        · omega
        · omega
        · exact ⟨List.mem_append_left _ haA, List.mem_append_right _ List.mem_cons_self⟩
        · omega
    have hnot' : ¬ (a1 ∈ A ++ B ∧ a2 ∈ A ++ B) := fun h => hnot ⟨hsub.subset h.1, hsub.subset h.2⟩
    rcases hRR with hRR | hRR
    · obtain ⟨k1, v, K, k2, k3⟩ := RA.front hr A i B oi e H hi ha hnA hal' hRR
      exact ⟨k1, v, K, k2, hsort', hlt', .inr ⟨hnot', .inl k3⟩⟩
    · obtain ⟨k1, v, K, k2, k3⟩ := RA.front hr A i B oi e H hi ha hnA hal' hRR
      exact ⟨k1, v, K, k2, hsort', hlt', .inr ⟨hnot', .inr k3⟩⟩
def swG (g : G) (n : Nat) : G := { g with io := ⟨g.ι.take n ++ [g.ι.getD (n + 1) 0, g.ι.getD n 0], g.io.z⟩ }
theorem swG_lt {g : G} {n i b : Nat} (hl : g.ι.length = n + 2) (h : (g.ι.take n)[i]? = some b) : (swG g n).ι[i]? = some b := by
  have hi : i < (g.ι.take n).length := (List.getElem?_eq_some_iff.mp h).1
  show (g.ι.take n ++ [g.ι.getD (n + 1) 0, g.ι.getD n 0])[i]? = _
  rw [List.getElem?_append_left hi]
  exact h
theorem swG_at {g : G} {n i b : Nat} (hl : g.ι.length = n + 2) (h : (swG g n).ι[i]? = some b) : (i < n ∧ g.ι[i]? = some b) ∨ (i = n ∧ g.ι[n + 1]? = some b) ∨ (i = n + 1 ∧ g.ι[n]? = some b) := by
  have hlt : (g.ι.take n).length = n := by rw [List.length_take]; omega
  have h : (g.ι.take n ++ [g.ι.getD (n + 1) 0, g.ι.getD n 0])[i]? = some b := h
  by_cases hi : i < n
  · left
    rw [List.getElem?_append_left (by omega), List.getElem?_take, if_pos hi] at h
    exact ⟨hi, h⟩
  · right
    rw [List.getElem?_append_right (by omega), hlt] at h
    have gd : ∀ k, k < n + 2 → g.ι[k]? = some (g.ι.getD k 0) := fun k hk => by
      rw [List.getD_eq_getElem?_getD, List.getElem?_eq_getElem (by omega)]
      rfl
    by_cases h0 : i = n
    · subst h0
      rw [Nat.sub_self] at h
      have h : some (g.ι.getD (i + 1) 0) = some b := h
      exact .inl ⟨rfl, by rw [gd _ (by omega), h]⟩
    · by_cases h1 : i = n + 1
      · subst h1
        have e : n + 1 - n = 1 := by omega
        rw [e] at h
        have h : some (g.ι.getD n 0) = some b := h
        exact .inr ⟨rfl, by rw [gd _ (by omega), h]⟩
      · have e : i - n = (i - n - 2) + 2 := by omega
        rw [e] at h
        simp at h
theorem u9h {g : G} {n : Nat} (hl : g.ι.length = n + 2) (S : Owner → Prop) : Grow S { g with io := ⟨g.ι.take n, g.io.z⟩ } (swG g n) := ⟨⟨fun i b hb => swG_lt hl hb, fun _ _ h => h⟩, fun _ _ _ h => h, fun _ _ _ _ h => ⟨h, fun _ h => h⟩, rfl⟩
theorem ukl {g : G} {n : Nat} {L : Owner} {p q : PV} {v : Value} (hl : g.ι.length = n + 2) (hr : renV n p q) (h : RepT g L q v) : RepT (swG g n) L p v := by
  have gd : ∀ k, k < n + 2 → g.ι[k]? = some (g.ι.getD k 0) := fun k hk => by
    rw [List.getD_eq_getElem?_getD, List.getElem?_eq_getElem (by omega)]
    rfl
  have hlt : (g.ι.take n).length = n := by rw [List.length_take]; omega
  have ptr : ∀ {id off : Nat} {v : Value}, RepT g L (.ptr id off) v → ∃ b, g.ι[id]? = some b ∧ v = .pointer (some ⟨b, off, none⟩) := fun h => by
    cases h with
    | one h => cases h with
      | pure h => cases h with
        | flat h => cases h
        | ptr h => exact ⟨_, h, rfl⟩
  rcases hr with ⟨rfl, hlow⟩ | ⟨o, rfl, rfl⟩ | ⟨o, rfl, rfl⟩
  · have h2 := h.lowT hlow
    have hg : Grow (fun _ => True) { g with io := ⟨g.ι.take n, g.io.z⟩ } (swG g n) := u9h hl _
    exact h2.mono hg True.intro (fun _ => True.intro)
  · obtain ⟨b, hb, rfl⟩ := ptr h
    refine .one (.pure (.ptr ?_))
    show (g.ι.take n ++ [g.ι.getD (n + 1) 0, g.ι.getD n 0])[n]? = _
    rw [List.getElem?_append_right (by omega), hlt, Nat.sub_self]
    show some (g.ι.getD (n + 1) 0) = some b
    rw [← gd _ (by omega), hb]
  · obtain ⟨b, hb, rfl⟩ := ptr h
    refine .one (.pure (.ptr ?_))
    show (g.ι.take n ++ [g.ι.getD (n + 1) 0, g.ι.getD n 0])[n + 1]? = _
    rw [List.getElem?_append_right (by omega), hlt]
    have e : n + 1 - n = 1 := by omega
    rw [e]
    show some (g.ι.getD n 0) = some b
    rw [← gd _ (by omega), hb]
theorem uk2 {g : G} {w : World} {a : Act} {Δ : List Dfr} {n : Nat} {e1 e2 : Env} {H1 H2 : Heap} (hp : c.prot = []) (hN : ∃ m, g.N = some m ∧ m ≤ n) (hsw : u99 n e1 H1 e2 H2) (hS : Sta c g H2 e2 a w Δ) : Sta c (swG g n) H1 e1 a w Δ := by
  obtain ⟨H0, x1, x2, hn, rfl, rfl, hx, hlen, hren⟩ := hsw
  obtain ⟨m, hm, hmn⟩ := hN
  obtain ⟨hinv, htok, hdef, hmd⟩ := hS
  have hl : g.ι.length = n + 2 := by rw [hinv.len]; simp [hn]
  have hlt : (g.ι.take n).length = n := by rw [List.length_take]; omega
  have hΔ : DefsOk c (swG g n) e1 Δ a.defers := by
    cases Δ with
    | nil =>
      cases hd : a.defers with
      | nil => exact True.intro
      | cons x y => rw [hd] at hdef; exact hdef.elim
    | cons x y =>
      cases hd : a.defers with
      | nil => rw [hd] at hdef; exact hdef.elim
      | cons x' y' => rw [hd] at hdef; exact absurd hp hdef.2.1.1
  refine ⟨⟨?_, ?_, hinv.im, hinv.ow, ?_, hinv.gl, hinv.zl, fun k hk => ?_⟩, ⟨htok.one, hlen.trans htok.len, fun t v p h1 h2 => ?_, fun t p h1 h2 => ?_⟩, hΔ, ⟨hmd.e, hmd.n⟩⟩
  · show (g.ι.take n ++ [g.ι.getD (n + 1) 0, g.ι.getD n 0]).length = _
    simp only [List.length_append, List.length_take, List.length_cons, List.length_nil]
    omega
  · intro i j b hi hj li lj
    have key : ∀ k, k < n → liveB (H0 ++ [Box.cells x1, .cells x2]) k = true → liveB (H0 ++ [Box.cells x2, .cells x1]) k = true := by
      intro k hk hl
      unfold liveB at hl ⊢
      rw [List.getElem?_append_left (by omega)] at hl ⊢
      exact hl
    have k1 : liveB (H0 ++ [Box.cells x2, .cells x1]) n = true := u1c (y := .cells x2) (by rw [List.getElem?_append_right (by omega), hn, Nat.sub_self]; rfl) (by simp)
    have k2 : liveB (H0 ++ [Box.cells x2, .cells x1]) (n + 1) = true := u1c (y := .cells x1) (by
      rw [List.getElem?_append_right (by omega), hn]
      have e : n + 1 - n = 1 := by omega
      rw [e]
      rfl) (by simp)
    rcases swG_at hl hi with ⟨a1, a2⟩ | ⟨a1, a2⟩ | ⟨a1, a2⟩ <;> rcases swG_at hl hj with ⟨b1, b2⟩ | ⟨b1, b2⟩ | ⟨b1, b2⟩ <;> have := hinv.nd _ _ _ a2 b2 (by first | exact k1 | exact k2 | exact key _ a1 li) (by first | exact k1 | exact k2 | exact key _ b1 lj) <;> omega
  · intro id b x hb hx'
    have low : ∀ {p : PV} {v : Value} {L L' : Owner}, RepS g L p v → p.low n = true → stripC p = p → RepS (swG g n) L' p v := @fun p v L L' h h1 h2 => by
      have h3 := (h.strip (L' := L')).low (n := n) (by rw [h2]; exact h1)
      rw [h2] at h3
      exact h3.mono (u9h hl (fun _ => True)) True.intro
    rcases swG_at hl hb with ⟨a1, a2⟩ | ⟨a1, a2⟩ | ⟨a1, a2⟩
    · have hx2 : (H0 ++ [Box.cells x2, .cells x1])[id]? = some x := by
        rw [List.getElem?_append_left (by omega)] at hx' ⊢
        exact hx'
      have hbx := hinv.box id b x a2 hx2
      cases x with
      | cells cs =>
        obtain ⟨k1, k2, vs, T, k3, k4, k5⟩ := hbx
        refine ⟨k1, k2, vs, T, k3, k4, fun o cc vv hc hv => ?_⟩
        obtain ⟨q1, q2, q3⟩ := k5 o cc vv hc hv
        have q5 : cc.low (max m (id + 1)) = true := by
          unfold lowB at q3
          rw [hm] at q3
          exact q3
        have q4 := q1.low (n := n) (u1r (by omega) cc q5)
        exact ⟨q4.mono (u9h hl (fun _ => True)) True.intro, q2, q3⟩
      | iter s pos => exact hbx
      | dead => exact hbx
    · subst a1
      have hx2 : x = .cells x1 := by
        rw [List.getElem?_append_right (by omega), hn, Nat.sub_self] at hx'
        exact (Option.some.inj hx').symm
      subst hx2
      obtain ⟨k1, k2, vs, T, k3, k4, k5⟩ := hinv.box (id + 1) b (.cells x1) a2 (by
        rw [List.getElem?_append_right (by omega), hn]
        have e : id + 1 - id = 1 := by omega
        rw [e]
        rfl)
      refine ⟨k1, k2, vs, T, k3, k4, fun o cc vv hc hv => ?_⟩
      obtain ⟨q1, q2, q3⟩ := k5 o cc vv hc hv
      obtain ⟨l1, l2⟩ := hx cc (List.mem_append_left _ (List.mem_of_getElem? hc))
      exact ⟨low q1 l1 l2, q2, u4z (u1r (by omega) cc l1)⟩
    · subst a1
      have hx2 : x = .cells x2 := by
        rw [List.getElem?_append_right (by omega), hn] at hx'
        have e : n + 1 - n = 1 := by omega
        rw [e] at hx'
        exact (Option.some.inj hx').symm
      subst hx2
      obtain ⟨k1, k2, vs, T, k3, k4, k5⟩ := hinv.box n b (.cells x2) a2 (by
        rw [List.getElem?_append_right (by omega), hn, Nat.sub_self]
        rfl)
      refine ⟨k1, k2, vs, T, k3, k4, fun o cc vv hc hv => ?_⟩
      obtain ⟨q1, q2, q3⟩ := k5 o cc vv hc hv
      obtain ⟨l1, l2⟩ := hx cc (List.mem_append_right _ (List.mem_of_getElem? hc))
      exact ⟨low q1 l1 l2, q2, u4z (u1r (by omega) cc l1)⟩
  · have hk : g.N = some k := hk
    rw [hm] at hk
    cases hk
    simp
    omega
  · have ht : t < e2.length := by
      have := (List.getElem?_eq_some_iff.mp h2).1
      omega
    have hq : e2[t]? = some (e2.getD t .undef) := by
      rw [List.getD_eq_getElem?_getD, List.getElem?_eq_getElem ht]
      rfl
    have hr := hren t
    have hpp : e1.getD t .undef = p := by rw [List.getD_eq_getElem?_getD, h2]; rfl
    rw [hpp] at hr
    exact ukl hl hr (htok.val t v _ h1 hq)
  · have ht : t < e2.length := by
      have := (List.getElem?_eq_some_iff.mp h2).1
      omega
    have hq : e2[t]? = some (e2.getD t .undef) := by
      rw [List.getD_eq_getElem?_getD, List.getElem?_eq_getElem ht]
      rfl
    have hr := hren t
    have hpp : e1.getD t .undef = p := by rw [List.getD_eq_getElem?_getD, h2]; rfl
    rw [hpp] at hr
    have hs := htok.slot t _ h1 hq
    rcases hr with ⟨hr, _⟩ | ⟨o, _, hr⟩ | ⟨o, _, hr⟩
    · rw [hr]; exact hs
    · rw [hr] at hs; rcases hs with h | h <;> cases h
    · rw [hr] at hs; rcases hs with h | h <;> cases h
theorem uh9 {g0 gs g : G} {w0 w : World} {n : Nat} (hl : g.ι.length = n + 2) (hs : gs.ι.length = n) (h0 : Grow IsUp g0 gs) (h : Glob g0 w0 g w) : Glob g0 w0 (swG g n) w := by
  refine ⟨h.os, h.tape, h.output, h.size, fun b hb h1 h2 => ?_, ⟨⟨fun i b hb => ?_, fun b s hz => h.up.ι.z b s hz⟩, h.up.im, h.up.ow, h.up.N⟩⟩
  · obtain ⟨a1, a2, a3⟩ := h.old b hb h1 h2
    refine ⟨a1, fun hm => a2 ?_, a3⟩
    obtain ⟨i, hi⟩ := List.getElem?_of_mem hm
    rcases swG_at hl hi with ⟨_, k⟩ | ⟨_, k⟩ | ⟨_, k⟩ <;> exact List.mem_of_getElem? k
  · have h1 := h0.ι.l i b hb
    have hi : i < n := by rw [← hs]; exact (List.getElem?_eq_some_iff.mp h1).1
    have h2 := h.up.ι.l i b hb
    refine swG_lt hl ?_
    rw [List.getElem?_take, if_pos hi]
    exact h2
end Go.Proofs.YtjcffopjohkmaaaDoor.Pi
namespace Go.Proofs.YtjcffopjohkmaaaDoor.Pi
variable {g : G} {L L' : Owner} {w w' : World} {H : Heap} {x : Nat} {env : Env}
def Ex.to : Ex → Exit
  | .normal => .normal
  | .exit id => .exit id
  | .ret => .ret
def KLeaf (CDN : Option PV → CallT) (c : Ctx) (g0 : G) (w0 : World) (out : Out PV) (k : K) (Q : Exit → Act → World → Prop) : Prop := ∀ e, Leaf CDN c g0 w0 out (k e) (Q e.to)
theorem u5b (l : List Tmp) : ∀ (i : Nat) (env : Env) (t : Nat), (u2d l i env)[t]? = (env[t]?).map fun v => bif l.contains (i + t) then v else .undef
  | i, [], t => by simp [u2d]
  | i, v :: r, t => by
    cases t with
    | zero => simp [u2d]
    | succ t =>
      simp only [u2d, List.getElem?_cons_succ]
      rw [u5b l (i + 1) r t]
      simp [Nat.add_assoc, Nat.add_comm 1 t]
theorem u9g (l : List Tmp) (env : Env) (t : Nat) : (keep l env)[t]? = (env[t]?).map fun v => bif l.contains t then v else .undef := by
  unfold keep
  rw [u5b]
  simp
theorem ud7 (l : List Tmp) (env : Env) : (keep l env).length = env.length := by
  have h1 : ∀ (i : Nat) (env : Env), (u2d l i env).length = env.length := by
    intro i env
    induction env generalizing i with
    | nil => rfl
    | cons v r ih => simp [u2d, ih]
  exact h1 0 env
theorem Sta.keep {c : Ctx} {a : Act} {Δ : List Dfr} (h : Sta c g H env a w Δ) {l : List Tmp} (hp : ∀ t ∈ c.prot, t ∈ l) : Sta c g H (keep l env) a w Δ := by
  refine ⟨h.inv, ⟨h.tok.one, by rw [ud7]; exact h.tok.len, fun t v p hv hp' => ?_, fun t p ht hp' => ?_⟩, h.defs.step (IoLe.refl _) (fun _ _ _ h => h) (fun t ht id off he => ?_), h.md⟩
  · rw [u9g] at hp'
    obtain ⟨q, hq, rfl⟩ := Option.map_eq_some_iff.mp hp'
    cases l.contains t
    · exact .one (.undef _)
    · exact h.tok.val t v q hv hq
  · rw [u9g] at hp'
    obtain ⟨q, hq, rfl⟩ := Option.map_eq_some_iff.mp hp'
    cases l.contains t
    · exact .inl rfl
    · exact h.tok.slot t q ht hq
  · have h1 : l.contains t = true := List.contains_iff_mem.mpr (hp t ht)
    rw [List.getD_eq_getElem?_getD] at he ⊢
    rw [u9g]
    cases hv : env[t]? with
    | none => rw [hv] at he; simp at he
    | some v =>
      rw [hv] at he
      simp only [Option.map_some, h1, cond_true]
      exact he
def LSound (CDN : Option PV → CallT) (c : Ctx) (L : LoopT) : Prop :=
  ∀ (af : List Tmp) (b : Code) (k : K) (Q : Exit → Act → World → Prop) (g0 : G) (w0 : World) (out : Out PV), (∀ t ∈ c.prot, t ∈ af) → KLeaf CDN c g0 w0 out k Q → u6e CDN c g0 w0 out (fun ch => Q (.panic ch)) →
    ∀ env a w g H Δ o, Glob g0 w0 g w → Sta c g H env a w Δ → L af b env k H = some o → unw CDN Δ o = some out → b.wp c.P Q a w
variable {c : Ctx} {CDN : Option PV → CallT}
theorem u2o (g : G) (w : World) : Glob g w g { w with drawn := w.drawn + 1 } := ⟨rfl, rfl, rfl, Nat.le_refl _, fun _ _ h k => ⟨h, k, rfl⟩, Grow.refl _ _⟩
theorem Sta.drew {a : Act} {Δ : List Dfr} (h : Sta c g H env a w Δ) : Sta c g H env a { w with drawn := w.drawn + 1 } Δ :=
  ⟨⟨h.inv.len, h.inv.nd, h.inv.im, h.inv.ow, fun id b x hb hx => by
    have := h.inv.box id b x hb hx
    cases x <;> exact this, h.inv.gl, h.inv.zl, h.inv.nn⟩, h.tok, h.defs, h.md⟩
theorem u1s (hC : CSound c.P c.es c.C) (hrc : c.rc = none) (hle : ∀ r f a, Le (c.CD r f a) (CDN r f a)) {L : LoopT} (hL : LSound CDN c L) :
    ∀ (co : Code) (af : List Tmp) (k : K) (Q : Exit → Act → World → Prop) (g0 : G) (w0 : World) (out : Out PV), (∀ t ∈ c.prot, t ∈ af) → KLeaf CDN c g0 w0 out k Q → u6e CDN c g0 w0 out (fun ch => Q (.panic ch)) →
      ∀ env a w g H Δ o, Glob g0 w0 g w → Sta c g H env a w Δ → den c L af co env k H = some o → unw CDN Δ o = some out → co.wp c.P Q a w
  | .skip, af, k, Q, g0, w0, out, hp, hk, hpl, env, a, w, g, H, Δ, o, hgl, hS, h, hu => wp_skip (hk .normal Δ o g H env a w h hu hgl hS)
  | .label l, af, k, Q, g0, w0, out, hp, hk, hpl, env, a, w, g, H, Δ, o, hgl, hS, h, hu => wp_label (hk .normal Δ o g H env a w h hu hgl hS)
  | .ret, af, k, Q, g0, w0, out, hp, hk, hpl, env, a, w, g, H, Δ, o, hgl, hS, h, hu => wp_ret (hk .ret Δ o g H env a w h hu hgl hS)
  | .exit id, af, k, Q, g0, w0, out, hp, hk, hpl, env, a, w, g, H, Δ, o, hgl, hS, h, hu => wp_exit (hk (.exit id) Δ o g H env a w h hu hgl hS)
  | .region id ops true, af, k, Q, g0, w0, out, hp, hk, hpl, env, a, w, g, H, Δ, o, hgl, hS, h, hu => by
    have h : guardM (c.P.follows .mixedOrders && commB ops) (bif modeA ops && (c.rc.isNone && (c.prot.isEmpty && !c.es)) then dOpsAA c ops env (k .normal) else bif modeP ops && c.rc.isNone then dOpsP c ops env (k .normal) else bif ops.any u0e || c.rc.isSome then dOpsW c ops 0 [] ops.toList env (k .normal) else dOpsN c ops ops.toList env (k .normal)) H = some o := h
    obtain ⟨hg, h⟩ := u02 h
    simp only [Bool.and_eq_true] at hg
    have hall : restOf ops (Array.replicate ops.size false) = List.range' 0 ops.toList.length := by
      unfold restOf
      rw [List.filter_eq_self.mpr, List.range_eq_range', Array.length_toList]
      intro i hi
      simp [Array.getD_eq_getD_getElem?, List.mem_range.mp hi]
    cases hba : (modeA ops && (c.rc.isNone && (c.prot.isEmpty && !c.es))) with
    | true =>
      rw [hba] at h
      have h : dOpsAA c ops env (k .normal) H = some o := h
      simp only [Bool.and_eq_true] at hba
      obtain ⟨hma, _, hprot, hes⟩ := hba
      have hes : c.es = false := by simpa using hes
      have hprot : c.prot = [] := List.isEmpty_iff.mp hprot
      obtain ⟨a1, a2, hals, h⟩ := uci h
      have hcons := ufg hma hals
      · obtain ⟨e2, H2, e1, H1, q2, q1, hsw, hx⟩ := chkA_some.mp h
        obtain ⟨e1', H1', L1, l1, _, l3, l4, hk'⟩ := u9k _ _ _ _ hx
        obtain ⟨e1'', H1'', L1', l1', _, l3', l4', hp1⟩ := u9k _ _ _ _ q1
        obtain ⟨e2'', H2'', L2, m1, _, m3, m4, hp2⟩ := u9k _ _ _ _ q2
        have hp1 : some (Out.ok e1'' H1'') = some (Out.ok e1 H1) := hp1
        have hp2 : some (Out.ok e2'' H2'') = some (Out.ok e2 H2) := hp2
        simp only [Option.some.injEq, Out.ok.injEq] at hp1 hp2
        obtain ⟨rfl, rfl⟩ := hp1
        obtain ⟨rfl, rfl⟩ := hp2
        obtain ⟨rfl, rfl⟩ := ue4 l4 l4' (l1.trans l1'.symm)
        have hal : ∀ i o, ops[i]? = some o → isAl o = true → i = a1 ∨ i = a2 := fun i o hi ho => by
          have hm : i ∈ alsOf ops := by
            unfold alsOf
            rw [List.mem_filter]
            exact ⟨List.mem_range.mpr (Array.getElem?_eq_some_iff.mp hi).1, by rw [hi]; exact ho⟩
          rw [hals] at hm
          simpa using hm
        have hsorted : (alsOf ops).Pairwise (· < ·) := by unfold alsOf; exact List.pairwise_lt_range.filter _
        rw [hals] at hsorted
        have h12 : a1 < a2 := by simpa using hsorted
        have hmem : ∀ i ∈ [a1, a2], i < ops.size := fun i hi => by
          rw [← hals] at hi
          unfold alsOf at hi
          exact List.mem_range.mp (List.mem_filter.mp hi).1
        have hlen0 := hS.inv.len
        refine wp_region_any hg.1 (u2n hC hg.2 (R := RB c ops a1 a2 e1' H1' e2'' H2'') (Δ := Δ) (g0 := g0) (w0 := w0) (fun A i B oi e K hi ha hnb hR => RB.front hg.2 h12 hal hcons A i B oi e K hi ha hnb hR) (fun e K gf af wf hR hglf hSf => ?_) ops.size _ env H a _ g (by simp) ?_ ?_ ?_ (hgl.trans (u2o g w)) hS.drew)
        · obtain ⟨_, _, hR⟩ := hR
          rcases hR with ⟨h1, _⟩ | ⟨_, hR | hR⟩
          · cases h1
          · obtain ⟨rfl, rfl⟩ := hR.nil
            exact hk .normal Δ o gf K e af wf hk' hu hglf hSf
          · obtain ⟨rfl, rfl⟩ := hR.nil
            have hlf : gf.ι.length = H.length + 2 := by
              rw [hSf.inv.len]
              obtain ⟨H0, x1, x2, hn, _, hH2, _⟩ := hsw
              rw [hH2]
              simp [hn]
            exact hk .normal Δ o (swG gf H.length) H1' e1' af wf hk' hu (uh9 hlf hlen0 hgl.up hglf) (uk2 hprot (by
              obtain ⟨m, hm⟩ := hS.md.n hes
              exact ⟨m, by rw [hglf.up.N, ← hgl.up.N]; exact hm, hS.inv.nn m hm⟩) hsw hSf)
        · exact Nat.le_trans (List.length_filter_le _ _) (by simp)
        · intro j i hj hl
          simp [Array.getD_eq_getD_getElem?, hj] at hl
        · rw [hall, Array.length_toList, ← List.range_eq_range']
          refine ⟨List.pairwise_lt_range, fun i hi => List.mem_range.mp hi, .inl ⟨List.mem_range.mpr (hmem a1 (by simp)), List.mem_range.mpr (hmem a2 (by simp)), ⟨L1, l1, l3, l4⟩, ⟨L2, m1, m3, m4⟩⟩⟩
    | false =>
    rw [hba] at h
    cases hbp : (modeP ops && c.rc.isNone) with
    | true =>
      rw [hbp] at h
      have h : dOpsP c ops env (k .normal) H = some o := h
      unfold dOpsP at h
      cases hlb : lastB ops with
      | true =>
        rw [hlb] at h
        obtain ⟨e', H', hRL, hk'⟩ := u6a hg.2 h
        unfold u3f at hk'
        cases hol : ops[ops.size - 1]? with
        | none => rw [hol] at hk'; exact (u00 (H := H') hk').elim
        | some ol =>
          rw [hol] at hk'
          obtain ⟨hok, hk'⟩ := u02 hk'
          have hb : M.bind (gval c.P c.C c.es c.rc ops e' ol) (fun v => k .normal (put c.rc ops e' ol v)) H' = some o := hk'
          have hn0 : 0 < ops.size := by
            rcases Nat.eq_zero_or_pos ops.size with h0 | h0
            · rw [Array.getElem?_eq_none (by omega)] at hol; cases hol
            · exact h0
          cases hgv : gval c.P c.C c.es c.rc ops e' ol H' with
          | none => unfold M.bind at hb; rw [hgv] at hb; simp at hb
          | some o1 =>
            unfold M.bind at hb
            rw [hgv] at hb
            refine wp_region_any hg.1 (u7v hC hg.2 (R := RP c ops e' H' o1) (PQ := fun v K => o1 = .pan v K) (Δ := Δ) (g0 := g0) (w0 := w0) (fun A i B oi e K hi ha hnb hR => RP.front hlb hol hok hgv A i B oi e K hi hnb hR) (fun e K g a w hR hgl hS => ?_) (fun v K g e a w cv he hgl hS hr => ?_) ops.size _ env H a _ g (by simp) ?_ ?_ ?_ (hgl.trans (u2o g w)) hS.drew)
            · rcases hR with ⟨A, hA, _⟩ | ⟨_, v, o', ho', he, rfl⟩
              · simp at hA
              · rw [hol] at ho'
                cases ho'
                subst he
                exact hk .normal Δ o g K _ a w hb hu hgl hS
            · subst he
              simp only [Option.some.injEq] at hb
              subst hb
              exact hpl Δ v K g e a w cv hu hgl hS hr
            · exact Nat.le_trans (List.length_filter_le _ _) (by simp)
            · intro j i hj hl
              simp [Array.getD_eq_getD_getElem?, hj] at hl
            · rw [hall, Array.length_toList, ← List.range_eq_range']
              refine .inl ⟨List.range (ops.size - 1), ?_, fun k hk => List.mem_range.mp hk, hRL⟩
              rw [← List.range_succ]
              congr 1
              omega
      | false =>
        rw [hlb] at h
        obtain ⟨e', H', hRL, hk'⟩ := u6a hg.2 h
        refine wp_region_any hg.1 (u2n hC hg.2 (R := RL c ops e' H') (Δ := Δ) (g0 := g0) (w0 := w0) (fun A i B oi e K hi ha hnb hR => RL.front A i B oi e K hi hnb hR) (fun e K g a w hR hgl hS => ?_) ops.size _ env H a _ g (by simp) ?_ ?_ ?_ (hgl.trans (u2o g w)) hS.drew)
        · obtain ⟨rfl, rfl⟩ := hR.nil
          exact hk .normal Δ o g K e a w hk' hu hgl hS
        · exact Nat.le_trans (List.length_filter_le _ _) (by simp)
        · intro j i hj hl
          simp [Array.getD_eq_getD_getElem?, hj] at hl
        · rw [hall, Array.length_toList, ← List.range_eq_range']
          exact hRL
    | false =>
    rw [hbp] at h
    cases hbr : (ops.any u0e || c.rc.isSome) with
    | true =>
      rw [hbr] at h
      obtain ⟨e', H', L, l1, _, l3, l4, hk'⟩ := uch ops.toList [] 0 env H (fun j => by simp) h
      refine wp_region_any hg.1 (u2n hC hg.2 (R := RW c ops e' H') (Δ := Δ) (g0 := g0) (w0 := w0) (fun A i B oi e K hi ha hnb hR => RW.front hg.2 A i B oi e K hi ha hnb hR) (fun e K g a w hR hgl hS => ?_) ops.size _ env H a _ g (by simp) ?_ ?_ ?_ (hgl.trans (u2o g w)) hS.drew)
      · obtain ⟨rfl, rfl⟩ := hR.nil
        exact hk .normal Δ o g K e a w hk' hu hgl hS
      · exact Nat.le_trans (List.length_filter_le _ _) (by simp)
      · intro j i hj hl
        simp [Array.getD_eq_getD_getElem?, hj] at hl
      · rw [hall]
        exact ⟨L, l1, l3, l4⟩
    | false =>
      rw [hbr] at h
      obtain ⟨e', hrun, hk'⟩ := ugl ops.toList 0 env (fun j => by simp) h
      refine wp_region_any hg.1 (uiu hC hg.2 (e' := e') (Δ := Δ) (g0 := g0) (w0 := w0) (fun g a w hgl hS => hk .normal Δ o g H e' a w hk' hu hgl hS) ops.size _ env a _ g (by simp) ?_ ?_ ?_ (hgl.trans (u2o g w)) hS.drew)
      · exact Nat.le_trans (List.length_filter_le _ _) (by simp)
      · intro j i hj hl
        simp [Array.getD_eq_getD_getElem?, hj] at hl
      · rw [hall]
        exact hrun
  | .region id ops false, af, k, Q, g0, w0, out, hp, hk, hpl, env, a, w, g, H, Δ, o, hgl, hS, h, hu => by
    refine wp_region ?_
    have := u53 (Q := Q) hC hrc hle (hk .normal) hpl ops.toList 0 env a w g H Δ o (fun j => by simp) hgl hS h hu
    rwa [List.range_eq_range', ← Array.length_toList]
  | .seq x y, af, k, Q, g0, w0, out, hp, hk, hpl, env, a, w, g, H, Δ, o, hgl, hS, h, hu => by
    refine wp_seq ?_
    refine u1s hC hrc hle hL x ((rw y).1 ++ af) _ (Exit.then (y.wp c.P Q) Q) g0 w0 out (fun t ht => List.mem_append_right _ (hp t ht)) (fun e => ?_) hpl env a w g H Δ o hgl hS h hu
    cases e with
    | normal =>
      intro Δ o g H env a w h hu hgl hS
      have h : (bif c.rc.isNone && joinB x then L af y (keep ((rw y).1 ++ af) env) k else den c L af y env k) H = some o := h
      cases hj : (c.rc.isNone && joinB x) with
      | false =>
        rw [hj] at h
        exact u1s hC hrc hle hL y af k Q g0 w0 out hp hk hpl _ a w g H Δ o hgl hS h hu
      | true =>
        rw [hj] at h
        exact hL af y k Q g0 w0 out hp hk hpl _ a w g H Δ o hgl (hS.keep (fun t ht => List.mem_append_right _ (hp t ht))) h hu
    | exit id => exact hk (.exit id)
    | ret => exact hk .ret
  | .cond q x y, af, k, Q, g0, w0, out, hp, hk, hpl, env, a, w, g, H, Δ, o, hgl, hS, h, hu => by
    have rq := ev_rep hS.inv hS.tok q
    have h : condM (ev env q) (den c L af x env k) (den c L af y env k) H = some o := h
    unfold condM at h
    cases hv : ev env q with
    | bool b =>
      rw [hv] at h rq
      have hq := rq.bool
      dsimp only at h
      refine wp_cond hq ?_
      cases b
      · exact u1s hC hrc hle hL y af k Q g0 w0 out hp hk hpl env a w g H Δ o hgl hS h hu
      · exact u1s hC hrc hle hL x af k Q g0 w0 out hp hk hpl env a w g H Δ o hgl hS h hu
    | _ => (rw [hv] at h; exact (u00 (H := H) h).elim)
  | .block id b, af, k, Q, g0, w0, out, hp, hk, hpl, env, a, w, g, H, Δ, o, hgl, hS, h, hu => by
    refine wp_block ?_
    refine u1s hC hrc hle hL b af _ (Exit.inBlock id Q) g0 w0 out hp (fun e => ?_) hpl env a w g H Δ o hgl hS h hu
    cases e with
    | normal => exact hk .normal
    | ret => exact hk .ret
    | exit i =>
      intro Δ o g H env a w h hu hgl hS
      by_cases hi : i = id
      · subst hi
        have h : (bif i == i then k .normal env else k (.exit i) env) H = some o := h
        rw [beq_self_eq_true] at h
        show if i = i then Q .normal a w else Q (.exit i) a w
        rw [if_pos rfl]
        exact hk .normal Δ o g H env a w h hu hgl hS
      · have h : (bif i == id then k .normal env else k (.exit i) env) H = some o := h
        have hb : (i == id) = false := by simpa using hi
        rw [hb] at h
        show if i = id then Q .normal a w else Q (.exit i) a w
        rw [if_neg hi]
        exact hk (.exit i) Δ o g H env a w h hu hgl hS
  | .loop b, af, k, Q, g0, w0, out, hp, hk, hpl, env, a, w, g, H, Δ, o, hgl, hS, h, hu =>
    hL af (.loop b) k Q g0 w0 out hp hk hpl _ a w g H Δ o hgl (hS.keep (fun t ht => List.mem_append_right _ (hp t ht))) h hu
  | .rangeFunc .., af, k, Q, g0, w0, out, hp, hk, hpl, env, a, w, g, H, Δ, o, hgl, hS, h, hu => (u00 (H := H) h).elim
  | .scope _, af, k, Q, g0, w0, out, hp, hk, hpl, env, a, w, g, H, Δ, o, hgl, hS, h, hu => (u00 (H := H) h).elim
  | .goto _, af, k, Q, g0, w0, out, hp, hk, hpl, env, a, w, g, H, Δ, o, hgl, hS, h, hu => (u00 (H := H) h).elim
  | .refuse _, af, k, Q, g0, w0, out, hp, hk, hpl, env, a, w, g, H, Δ, o, hgl, hS, h, hu => (u00 (H := H) h).elim
theorem u3k (p : Nat → Prop) (h : ∃ n, p n) : ∃ n, p n ∧ ∀ m, p m → n ≤ m := by
  obtain ⟨n, hn⟩ := h
  induction n using Nat.strongRecOn with
  | _ n ih =>
    by_cases hl : ∃ m, m < n ∧ p m
    · obtain ⟨m, hm, hp⟩ := hl
      exact ih m hm hp
    · exact ⟨n, hn, fun m hm => by
        rcases Nat.lt_or_ge m n with h | h
        · exact absurd ⟨m, h, hm⟩ hl
        · exact h⟩
noncomputable def least (p : Nat → Prop) (h : ∃ n, p n) : Nat := Classical.choose (u3k p h)
theorem ufv (p : Nat → Prop) (h : ∃ n, p n) : p (least p h) := (Classical.choose_spec (u3k p h)).1
theorem ujm (p : Nat → Prop) (h : ∃ n, p n) {m : Nat} (hm : p m) : least p h ≤ m := (Classical.choose_spec (u3k p h)).2 m hm
section
variable {P : Program} {X : ExtT}
variable {es : Bool} {pr : List Tmp} {C1 C2 : CallT} {D1 D2 : Option PV → CallT} {rc : Option (Option PV)} {res : Env → M PV}
theorem uf7 : ∀ {Δ : List Dfr} {ds : List Deferred}, DefsOk ⟨P, pr, es, C1, D1, rc, res⟩ g env Δ ds → DefsOk ⟨P, pr, es, C2, D2, rc, res⟩ g env Δ ds
  | [], [], h => h
  | q :: Δ, δ :: ds, h => ⟨h.1, h.2.1, uf7 h.2.2⟩
  | [], _ :: _, h => h
  | _ :: _, [], h => h
theorem u49 {a : Act} {Δ : List Dfr} (h : Sta ⟨P, pr, es, C1, D1, rc, res⟩ g H env a w Δ) : Sta ⟨P, pr, es, C2, D2, rc, res⟩ g H env a w Δ := ⟨h.inv, h.tok, uf7 h.defs, h.md⟩
theorem u4s {g0 : G} {w0 : World} {out : Out PV} {k : Env → M PV} {Q : Act → World → Prop} (h : Leaf CDN ⟨P, pr, es, C1, D1, rc, res⟩ g0 w0 out k Q) : Leaf CDN ⟨P, pr, es, C2, D2, rc, res⟩ g0 w0 out k Q :=
  fun Δ o g H env a w h1 h2 h3 h4 => h Δ o g H env a w h1 h2 h3 (u49 h4)
theorem u2t {g0 : G} {w0 : World} {out : Out PV} {Q : List PanicEntry → Act → World → Prop} (h : u6e CDN ⟨P, pr, es, C1, D1, rc, res⟩ g0 w0 out Q) : u6e CDN ⟨P, pr, es, C2, D2, rc, res⟩ g0 w0 out Q :=
  fun Δ v H g env a w cv h1 h2 h4 h5 => h Δ v H g env a w cv h1 h2 (u49 h4) h5
theorem ui7 (n : Nat) (r : Option PV) (f : FuncId) (a : List PV) : ∀ {m : Nat}, n ≤ m → Le ((sem P X n).CD r f a) ((sem P X m).CD r f a) := by
  intro m h
  induction h with
  | refl => exact Le.refl _
  | step _ ih => exact fun H q hq => (u31 P X _).CD r f a H q (ih H q hq)
theorem ufn (N : Nat) (hCs : ∀ m, m < N → u50 P (sem P X m).C) (C0 : CallT) (D0 : Option PV → CallT) (CDN : Option PV → CallT)
    (hle : ∀ m, m < N → ∀ r f a, Le (callDG es (sem P X m).CD r f a) (CDN r f a)) (n : Nat) (hn : n ≤ N) : LSound CDN ⟨P, pr, es, C0, D0, none, res⟩ ((sem P X n).L es none pr res) := by
  induction n using Nat.strongRecOn with
  | _ n ih =>
  intro af co k Q g0 w0 out hp hk hpl env a w g H Δ o hgl hS h hu
  classical
  by_cases hco : ∃ b, co = .loop b
  case neg =>
    cases n with
    | zero => exact (u00 (H := H) h).elim
    | succ m =>
      have h : den ⟨P, pr, es, callG es (sem P X m).C, callDG es (sem P X m).CD, none, res⟩ ((sem P X m).L es none pr res) af co env k H = some o := by
        cases co with
        | loop b => exact absurd ⟨b, rfl⟩ hco
        | _ => exact h
      refine u1s (c := ⟨P, pr, es, callG es (sem P X m).C, callDG es (sem P X m).CD, none, res⟩) (CDN := CDN) (u30 (hCs m (by omega))) rfl (hle m (by omega)) (L := (sem P X m).L es none pr res) ?_ co af _ _ g0 w0 out hp (fun e => u4s (hk e)) (u2t hpl) env a w g H Δ o hgl (u49 hS) h hu
      intro af' b' k' Q' g0' w0' out' hp' hk' hpl' env' a' w' g' H' Δ' o' hgl' hS' h' hu'
      exact ih m (by omega) (by omega) af' b' k' Q' g0' w0' out' hp' (fun e => u4s (hk' e)) (u2t hpl') env' a' w' g' H' Δ' o' hgl' (u49 hS') h' hu'
  obtain ⟨b, rfl⟩ := hco
  -- what holds at the head of a round with depth m
  let J : Nat → Act → World → Prop := fun m a w => m ≤ n ∧ ∃ env g H Δ o, Glob g0 w0 g w ∧ Sta ⟨P, pr, es, C0, D0, none, res⟩ g H env a w Δ ∧ (sem P X m).L es none pr res af (.loop b) env k H = some o ∧ unw CDN Δ o = some out
  let μ : Act → World → Nat := fun a w => if hh : ∃ m, J m a w then least (fun m => J m a w) hh else 0
  refine wp_loop (fun a w => ∃ m, J m a w) μ ⟨n, Nat.le_refl n, env, g, H, Δ, o, hgl, hS, h, hu⟩ ?_
  intro a w hI
  have hμ : μ a w = least (fun m => J m a w) hI := by
    show (if hh : ∃ m, J m a w then least (fun m => J m a w) hh else 0) = _
    rw [dif_pos hI]
  obtain ⟨hmN, env, g, H, Δ, o, hgl, hS, h, hu⟩ := ufv (fun m => J m a w) hI
  cases hm : least (fun m => J m a w) hI with
  | zero =>
    rw [hm] at h
    exact (u00 (H := H) h).elim
  | succ m =>
    rw [hm] at h hmN
    have hstep : Code.wp P b (Exit.then (fun a' w' => J m a' w') Q) a w := by
      refine u1s (c := ⟨P, pr, es, callG es (sem P X m).C, callDG es (sem P X m).CD, none, res⟩) (CDN := CDN) (u30 (hCs m (by omega))) rfl (hle m (by omega)) (L := (sem P X m).L es none pr res) ?_ b (alive af b) _ _ g0 w0 out (fun t ht => List.mem_append_right _ (hp t ht)) (fun e => ?_) ?_ env a w g H Δ o hgl (u49 hS) h hu
      · intro af' b' k' Q' g0' w0' out' hp' hk' hpl' env' a' w' g' H' Δ' o' hgl' hS' h' hu'
        exact ih m (by omega) (by omega) af' b' k' Q' g0' w0' out' hp' (fun e => u4s (hk' e)) (u2t hpl') env' a' w' g' H' Δ' o' hgl' (u49 hS') h' hu'
      · cases e with
        | normal =>
          intro Δ o g H env a w h hu hgl hS
          exact ⟨by omega, _, g, H, Δ, o, hgl, (u49 hS).keep (fun t ht => List.mem_append_right _ (hp t ht)), h, hu⟩
        | exit id => exact u4s (hk (.exit id))
        | ret => exact u4s (hk .ret)
      · exact u2t hpl
    refine wp_mono hstep fun e a' w' hq => ?_
    cases e with
    | normal =>
      have hJ : J m a' w' := hq
      refine ⟨⟨m, hJ⟩, ?_⟩
      rw [hμ, hm]
      have : μ a' w' = least (fun m => J m a' w') ⟨m, hJ⟩ := by
        show (if hh : ∃ m, J m a' w' then least (fun m => J m a' w') hh else 0) = _
        rw [dif_pos ⟨m, hJ⟩]
      rw [this]
      exact Nat.lt_succ_of_le (ujm (fun m => J m a' w') _ hJ)
    | _ => exact hq
end
end Go.Proofs.YtjcffopjohkmaaaDoor.Pi
namespace Go.Proofs.YtjcffopjohkmaaaDoor.Pi
variable {P : Program} {g : G} {L L' : Owner} {w w' : World} {H : Heap} {x : Nat} {env : Env}
def resRun (tm : Array Value) : ResultVar → Sem Value
  | .tmp t => pure (tm.getD t undef)
  | .cell a t => do loadVar t (← asAddr (tm.getD a undef))
theorem u6m {fn : Func} {tm : Array Value} {vs : List Value} (h : (fn.results.toList.mapM (resRun tm)).run P w = .ok vs w) : (results fn tm).run P w = .ok (if h : vs.length = 1 then vs[0] else .tuple vs.toArray) w := by
  have e : results fn tm = (do let vs ← fn.results.mapM (resRun tm); pure (if h : vs.size = 1 then vs[0] else .tuple vs)) := by
    unfold results
    congr 1
  rw [e, Array.mapM_eq_mapM_toList]
  simp only [Sem.run_bind, Sem.run_map, h, Result.andThen_ok, Sem.run_pure, Result.ok.injEq, and_true]
  by_cases h1 : vs.length = 1
  · rw [dif_pos h1, dif_pos (by simpa using h1)]
    simp
  · rw [dif_neg h1, dif_neg (by simpa using h1)]
def mvRes (s j : Nat) : Owner → Owner
  | .tmp t => if t = s then .sub .res j else .tmp t
  | M => M
theorem TOk.moveRes {tm : Array Value} (h : TOk x g env tm) (s j : Nat) : TOk x (g.ren (mvRes s j)) (env.set s (strip (env.getD s .undef))) tm := by
  have hl := h.len
  refine ⟨h.one, by simp [h.len], fun t u q hu hq => ?_, fun t q ht hq => ?_⟩
  · by_cases e : s = t
    · subst e
      have h2 : s < env.length := by
        have := (List.getElem?_eq_some_iff.mp hq).1
        simpa using this
      rw [List.getElem?_set_self h2] at hq
      simp only [Option.some.injEq] at hq
      subst hq
      have : env.getD s .undef = env[s] := by simp [List.getD, List.getElem?_eq_getElem h2]
      rw [this]
      exact (h.val s u _ hu (List.getElem?_eq_getElem h2)).stripRen _ _
    · rw [List.getElem?_set_ne e] at hq
      refine (h.val t u q hu hq).ren ?_ (fun j => rfl)
      show (if t = s then _ else _) = _
      rw [if_neg (fun h => e h.symm)]
  · have h3 := h.giveUp (some (s, none))
    exact h3.slot t q ht hq
def uij : Owner → Prop
  | .up _ => True
  | .sub .res _ => True
  | _ => False
theorem RepT.notTup {p : PV} {v : Value} (h : RepT g L p v) (hn : isTup p = false) : RepS g L p v := by
  cases h with
  | one h => exact h
  | tup => simp [isTup] at hn
  | aggo => simp [isTup] at hn
theorem ucj {tm : Array Value} {k : List PV → M PV} {o : Out PV} : ∀ (rs : List ResultVar) (env : Env) (acc : List PV) (g : G) (H : Heap), resV P env rs acc k H = some o → Inv g H w → TOk x g env tm →
    (∃ v H', o = .pan v H' ∧ False) ∨ ∃ pvs cvs g' H', (rs.mapM (resRun tm)).run P w = .ok cvs w ∧ k (acc.reverse ++ pvs) H' = some o ∧ Inv g' H' w ∧ Glob g w g' w ∧ Grow uij g g' ∧ pvs.length = cvs.length ∧
      ∀ (j : Nat) (p : PV) (v : Value), pvs[j]? = some p → cvs[j]? = some v → RepS g' (.sub .res (acc.length + j)) p v
  | [], env, acc, g, H, h, hi, hT => .inr ⟨[], [], g, H, by simp, by simpa [resV] using h, hi, Glob.refl _ _, Grow.refl _ _, rfl, fun j p v hp => by simp at hp⟩
  | .tmp t :: r, env, acc, g, H, h, hi, hT => by
    refine .inr ?_
    unfold resV at h
    have rt := ev_tmp hT t
    cases ht : isTup (env.getD t .undef) with
    | true => rw [ht] at h; exact (u00 (H := H) h).elim
    | false =>
      rw [ht] at h
      dsimp only [cond_false] at h
      rcases ucj r _ _ (g.ren (mvRes t acc.length)) H h (hi.ren (fun _ _ => rfl)) (hT.moveRes t acc.length) with ⟨_, _, _, hf⟩ | ⟨pvs, cvs, g', H', e1, e2, e3, e4, e5, e6, e7⟩
      · exact hf.elim
      refine ⟨env.getD t .undef :: pvs, tm.getD t undef :: cvs, g', H', ?_, ?_, e3, (u1a (w := w) (fun M => rfl)).trans e4, (u4o (fun M hM => by cases M <;> first | rfl | exact hM.elim)).trans e5, by simp [e6], fun j p v hp hv => ?_⟩
      · simp only [List.mapM_cons, Sem.run_bind, resRun, Sem.run_pure, Result.andThen_ok, e1]
      · simpa using e2
      · cases j with
        | zero =>
          simp at hp hv
          subst hp; subst hv
          have h1 : RepS (g.ren (mvRes t acc.length)) (.sub .res acc.length) (env.getD t .undef) (tm.getD t undef) := by
            refine (rt.notTup ht).ren ?_
            show (if t = t then _ else _) = _
            rw [if_pos rfl]
          have h1 := h1.mono e5 (L := .sub .res acc.length) True.intro
          simpa using h1
        | succ j =>
          have := e7 j p v (by simpa using hp) (by simpa using hv)
          simpa [Nat.add_assoc, Nat.add_comm 1 j] using this
  | .cell a t :: r, env, acc, g, H, h, hi, hT => by
    refine .inr ?_
    unfold resV at h
    obtain ⟨hk, h⟩ := u02 h
    unfold M.bind at h
    have rt := ev_tmp hT a
    cases hld : ld (tagg P t) true (env.getD a .undef) H with
    | none => rw [hld] at h; simp at h
    | some o1 =>
      rw [hld] at h
      obtain ⟨v, H1, cv, g1, rfl, h1, h2, h3, h4, h5⟩ := ld_mvS (P := P) (w := w) (tm.size + acc.length + 1) hk hld hi rt
      dsimp only at h
      obtain ⟨hnt, h⟩ := u02 h
      have hnt : isTup v = false := by simpa using hnt
      have hT1 : TOk x g1 env tm := hT.mono h3 (fun M hM => by cases M <;> first | exact True.intro | exact hM.elim)
      have hT2 : TOk x (g1.ren (mvRes (tm.size + acc.length + 1) acc.length)) env tm := by
        refine ⟨hT1.one, hT1.len, fun t' u q hu hq => (hT1.val t' u q hu hq).ren ?_ (fun j => rfl), hT1.slot⟩
        show (if t' = tm.size + acc.length + 1 then _ else _) = _
        rw [if_neg (by have := (Array.getElem?_eq_some_iff.mp hu).1; omega)]
      have hload : (resRun tm (.cell a t)).run P w = .ok cv w := by
        unfold resRun
        have h1' := h1
        unfold Instr.loadAt at h1'
        cases hv : tm.getD a undef with
        | pointer p =>
          rw [hv] at h1'
          cases p with
          | none => simp [Instr.sureAddr] at h1'
          | some ad =>
            dsimp only
            rw [hv]
            simpa [Instr.sureAddr, asAddr] using h1'
        | _ => rw [hv] at h1'; simp [Instr.sureAddr] at h1'
      rcases ucj r env (v :: acc) (g1.ren (mvRes (tm.size + acc.length + 1) acc.length)) H1 h (h4.ren (fun _ _ => rfl)) hT2 with ⟨_, _, _, hf⟩ | ⟨pvs, cvs, g', H', e1, e2, e3, e4, e5, e6, e7⟩
      · exact hf.elim
      · refine ⟨v :: pvs, cv :: cvs, g', H', ?_, by simpa using e2, e3, h2.trans ((u1a (w := w) (fun M => rfl)).trans e4), ?_, by simp [e6], fun j p u hp hu => ?_⟩
        · simp only [List.mapM_cons, Sem.run_bind, hload, Sem.run_pure, Result.andThen_ok, e1]
        · exact (h3.sub (fun M hM => by cases M <;> first | exact True.intro | exact hM.elim)).trans ((u4o (fun M hM => by cases M <;> first | rfl | exact hM.elim)).trans e5)
        · cases j with
          | zero =>
            simp at hp hu
            subst hp; subst hu
            have h6 := (h5.notTup hnt).ren (f := mvRes (tm.size + acc.length + 1) acc.length) (L' := .sub .res acc.length) (by
              show (if tm.size + acc.length + 1 = tm.size + acc.length + 1 then _ else _) = _
              rw [if_pos rfl])
            have h7 := h6.mono e5 (L := .sub .res acc.length) True.intro
            simpa using h7
          | succ j =>
            have := e7 j p u (by simpa using hp) (by simpa using hu)
            simpa [Nat.add_assoc, Nat.add_comm 1 j] using this
end Go.Proofs.YtjcffopjohkmaaaDoor.Pi
namespace Go.Proofs.YtjcffopjohkmaaaDoor.Pi
variable {P : Program} {g : G} {L L' : Owner} {w w' : World} {H : Heap} {x : Nat} {env : Env}
def u5p (g : G) (e : Env) (tm : Array Value) (rs : List ResultVar) : Prop :=
  ∀ r ∈ rs, ∃ a t id off b, r = .cell a t ∧ e.getD a .undef = .ptr id off ∧ g.ι[id]? = some b ∧ tm.getD a undef = .pointer (some ⟨b, off, none⟩)
theorem ugi {tm : Array Value} {k : List PV → M PV} {o : Out PV} {e : Env} : ∀ (rs : List ResultVar) (acc : List PV) (g : G) (H : Heap), resV P e rs acc k H = some o → Inv g H w → u5p g e tm rs →
    ∃ pvs cvs g' H', (rs.mapM (resRun tm)).run P w = .ok cvs w ∧ k (acc.reverse ++ pvs) H' = some o ∧ Inv g' H' w ∧ Glob g w g' w ∧ Grow uij g g' ∧ pvs.length = cvs.length ∧
      ∀ (j : Nat) (p : PV) (v : Value), pvs[j]? = some p → cvs[j]? = some v → RepS g' (.sub .res (acc.length + j)) p v
  | [], acc, g, H, h, hi, hT => ⟨[], [], g, H, by simp, by simpa [resV] using h, hi, Glob.refl _ _, Grow.refl _ _, rfl, fun j p v hp => by simp at hp⟩
  | r0 :: r, acc, g, H, h, hi, hT => by
    obtain ⟨a, t, id, off, b, rfl, he, hb, hv⟩ := hT r0 List.mem_cons_self
    unfold resV at h
    obtain ⟨hk, h⟩ := u02 h
    unfold M.bind at h
    rw [he] at h
    have rt : RepT g (.tmp 0) (.ptr id off) (tm.getD a undef) := by rw [hv]; exact rT (.ptr hb) _
    cases hld : ld (tagg P t) true (.ptr id off) H with
    | none => rw [hld] at h; simp at h
    | some o1 =>
      rw [hld] at h
      obtain ⟨v, H1, cv, g1, rfl, h1, h2, h3, h4, h5⟩ := ld_mvS (P := P) (w := w) (tm.size + acc.length + 1) hk hld hi rt
      dsimp only at h
      obtain ⟨hnt, h⟩ := u02 h
      have hnt : isTup v = false := by simpa using hnt
      have hload : (resRun tm (.cell a t)).run P w = .ok cv w := by
        unfold resRun
        have h1' := h1
        unfold Instr.loadAt at h1'
        dsimp only
        rw [hv] at h1' ⊢
        simpa [Instr.sureAddr, asAddr] using h1'
      have hT2 : u5p (g1.ren (mvRes (tm.size + acc.length + 1) acc.length)) e tm r := fun q hq => by
        obtain ⟨a, t, id, off, b, e1, e2, e3, e4⟩ := hT q (List.mem_cons_of_mem _ hq)
        exact ⟨a, t, id, off, b, e1, e2, h2.up.ι.l _ _ e3, e4⟩
      obtain ⟨pvs, cvs, g', H', e1, e2, e3, e4, e5, e6, e7⟩ := ugi r (v :: acc) (g1.ren (mvRes (tm.size + acc.length + 1) acc.length)) H1 h (h4.ren (fun _ _ => rfl)) hT2
      refine ⟨v :: pvs, cv :: cvs, g', H', ?_, by simpa using e2, e3, h2.trans ((u1a (w := w) (fun M => rfl)).trans e4), ?_, by simp [e6], fun j p u hp hu => ?_⟩
      · simp only [List.mapM_cons, Sem.run_bind, hload, Sem.run_pure, Result.andThen_ok, e1]
      · exact (h3.sub (fun M hM => by cases M <;> first | exact True.intro | exact hM.elim)).trans ((u4o (fun M hM => by cases M <;> first | rfl | exact hM.elim)).trans e5)
      · cases j with
        | zero =>
          simp at hp hu
          subst hp; subst hu
          have h6 := (h5.notTup hnt).ren (f := mvRes (tm.size + acc.length + 1) acc.length) (L' := .sub .res acc.length) (by
            show (if tm.size + acc.length + 1 = tm.size + acc.length + 1 then _ else _) = _
            rw [if_pos rfl])
          have h7 := h6.mono e5 (L := .sub .res acc.length) True.intro
          simpa using h7
        | succ j =>
          have := e7 j p u (by simpa using hp) (by simpa using hu)
          simpa [Nat.add_assoc, Nat.add_comm 1 j] using this
def oneRes : Owner → Owner
  | .sub .res 0 => .res
  | M => M
def resFin : List PV → M PV
  | [v] => M.pure v
  | vs => M.pure (.tup vs)
theorem ub2 {fn : Func} {tm : Array Value} {o : Out PV} {pvs : List PV} {cvs : List Value} {g' : G} {H' : Heap} (e1 : (fn.results.toList.mapM (resRun tm)).run P w = .ok cvs w)
    (e2 : resFin pvs H' = some o) (e3 : Inv g' H' w) (e4 : Glob g w g' w) (e6 : pvs.length = cvs.length)
    (e7 : ∀ (j : Nat) (p : PV) (v : Value), pvs[j]? = some p → cvs[j]? = some v → RepS g' (.sub .res j) p v) :
    ∃ v cv g2, o = .ok v H' ∧ (results fn tm).run P w = .ok cv w ∧ Inv g2 H' w ∧ Glob g w g2 w ∧ RepT g2 .res v cv := by
  have hr := u6m e1
  match pvs, cvs, e6 with
  | [], [], _ =>
    simp only [resFin, M.pure, Option.some.injEq] at e2
    exact ⟨_, _, g', e2.symm, hr, e3, e4, .tup rfl fun j p v hp => by simp at hp⟩
  | [p], [cv], _ =>
    simp only [resFin, M.pure, Option.some.injEq] at e2
    refine ⟨p, cv, g'.ren oneRes, e2.symm, by simpa using hr, e3.ren (fun _ _ => rfl), e4.trans (u1a (fun _ => rfl)), .one ((e7 0 p cv rfl rfl).ren rfl)⟩
  | p :: q :: r, cp :: cq :: cr, h6 =>
    simp only [resFin, M.pure, Option.some.injEq] at e2
    refine ⟨_, .tuple (cp :: cq :: cr).toArray, g', e2.symm, by rw [hr]; simp, e3, e4, .tup (by simpa using h6.symm) fun j u v hu hv => e7 j u v hu (by simpa using hv)⟩
theorem ukt {fn : Func} {tm : Array Value} {o : Out PV} (h : resM P fn env H = some o) (hi : Inv g H w) (hT : TOk x g env tm) :
    ∃ v H' cv g2, o = .ok v H' ∧ (results fn tm).run P w = .ok cv w ∧ Inv g2 H' w ∧ Glob g w g2 w ∧ RepT g2 .res v cv := by
  rcases ucj (w := w) fn.results.toList env [] g H h hi hT with ⟨_, _, _, hf⟩ | ⟨pvs, cvs, g', H', e1, e2, e3, e4, e5, e6, e7⟩
  · exact hf.elim
  · obtain ⟨v, cv, g2, a, b, c, d, e⟩ := ub2 (fn := fn) e1 (by rcases pvs with _ | ⟨p, _ | ⟨q, r⟩⟩ <;> exact e2) e3 e4 e6 (by simpa using e7)
    exact ⟨v, H', cv, g2, a, b, c, d, e⟩
theorem uj5 {fn : Func} {tm : Array Value} {o : Out PV} (h : resM P fn env H = some o) (hi : Inv g H w) (hT : u5p g env tm fn.results.toList) :
    ∃ v H' cv g2, o = .ok v H' ∧ (results fn tm).run P w = .ok cv w ∧ Inv g2 H' w ∧ Glob g w g2 w ∧ RepT g2 .res v cv := by
  obtain ⟨pvs, cvs, g', H', e1, e2, e3, e4, e5, e6, e7⟩ := ugi (w := w) fn.results.toList [] g H h hi hT
  obtain ⟨v, cv, g2, a, b, c, d, e⟩ := ub2 (fn := fn) e1 (by rcases pvs with _ | ⟨p, _ | ⟨q, r⟩⟩ <;> exact e2) e3 e4 e6 (by simpa using e7)
  exact ⟨v, H', cv, g2, a, b, c, d, e⟩
theorem u7q {CDN : Option PV → CallT} {c : Ctx} {fn : Func} {tm : Array Value} {R : Ending → World → Prop} {g0 : G} {w0 : World} {out0 : Out PV} {es : Bool} (hm0 : Md es g0) (hCD : uhq P es CDN) (hres : c.res = resM P fn)
    (hprot : c.prot ≠ [] → ∀ r ∈ fn.results.toList, ∃ a t, r = .cell a t ∧ a ∈ c.prot)
    (hR : ∀ g v H cv w, out0 = .ok v H → Glob g0 w0 g w → Inv g H w → RepT g .res v cv → R (.returned cv) w) :
    ∀ (Δ : List Dfr) (d : Dfr) (δ : Deferred) (ds : List Deferred) (o : Out PV) (g : G) (H : Heap) (w : World) (u : FrameMode), (match o with | .ok _ H' => H' = H ∧ u = .returning | .pan p H' => H' = H ∧ ∃ cv, u = .panicking [{ v := cv, recovered := false }] ∧ Rep g.io g.im p cv) →
      Inv g H w → DefsOk c g env (d :: Δ) (δ :: ds) → unw CDN (d :: Δ) o = some out0 → Glob g0 w0 g w → (∀ t ∈ c.prot, ∀ id off, env.getD t .undef = .ptr id off → ∃ b, g.ι[id]? = some b ∧ tm.getD t undef = .pointer (some ⟨b, off, none⟩)) →
      Leaves P fn tm R (δ :: ds) u w
  | Δ, d, δ, ds, o, g, H, w, u, ho, hi, ⟨⟨cap, cargs, hδ, hargs⟩, ⟨hne, ed, hed, hpt⟩, hrest⟩, hu, hgl, hpr => by
    subst hδ
    -- the call itself
    have hcall : ∃ rv v H2, CDN rv d.f d.args H = some (.ok v H2) ∧ ModeOk g rv u ∧ ∃ o', d.res H2 = some o' ∧ unw CDN Δ o' = some out0 ∧ settle (u17 v u) = .returning := by
      have hu' : (dstep CDN d o).bind (unw CDN Δ) = some out0 := hu
      obtain ⟨o', hd, hΔ⟩ := Option.bind_eq_some_iff.mp hu'
      cases o with
      | ok v0 H' =>
        obtain ⟨rfl, rfl⟩ := ho
        have hd : M.bind (CDN none d.f d.args) (fun _ => d.res) H' = some o' := hd
        unfold M.bind at hd
        cases hc : CDN none d.f d.args H' with
        | none => rw [hc] at hd; simp at hd
        | some o1 =>
          obtain ⟨_, v, H2, rfl, _⟩ := hCD _ _ _ _ _ hc
          rw [hc] at hd
          refine ⟨none, v, H2, hc, rfl, o', hd, hΔ, ?_⟩
          unfold u17
          split <;> first | rfl | (rename_i h; cases h) | rfl
      | pan p H' =>
        obtain ⟨rfl, cv, rfl, hrp⟩ := ho
        have hd : M.bind (CDN (some p) d.f d.args) (fun r => match r with | .tup [] => d.res | _ => M.fail) H' = some o' := hd
        unfold M.bind at hd
        cases hc : CDN (some p) d.f d.args H' with
        | none => rw [hc] at hd; simp at hd
        | some o1 =>
          obtain ⟨_, v, H2, rfl, _⟩ := hCD _ _ _ _ _ hc
          rw [hc] at hd
          dsimp only at hd
          split at hd
          · exact ⟨some p, .tup [], H2, hc, ⟨cv, rfl, hrp⟩, o', hd, hΔ, rfl⟩
          · exact (u00 (H := H2) hd).elim
    obtain ⟨rv, v, H2, hc, hm, o', hres', hΔ, hset⟩ := hcall
    obtain ⟨hcal, v', H2', hov, hsound⟩ := hCD _ _ _ _ _ hc
    simp only [Out.ok.injEq] at hov
    obtain ⟨rfl, rfl⟩ := hov
    refine leaves_cons ?_ (by
      show (callFunc d.f (cargs ++ cap)).run P w = _
      exact u5n hcal) ((hsound g w _ u (hm0.grow hgl.up) hi hargs hm).mono ?_)
    · intro e
      cases rv with
      | none => have hm : u = .returning := hm; rw [hm] at e; cases e
      | some p => obtain ⟨cv, hm, _⟩ := hm; rw [hm] at e; cases e
    rintro e u' w1 ⟨g1, cv, hgl1, hgr1, rfl, hi1, rfl⟩
    show Leaves P fn tm R ds (settle (u17 v u)) w1
    rw [hset]
    have hcells : u5p g1 ed tm fn.results.toList := by
      intro r hr
      obtain ⟨a, t, rfl, hap⟩ := hprot hne r hr
      obtain ⟨id, off, h1, h2⟩ := hpt a hap
      obtain ⟨b, hb, htv⟩ := hpr a hap id off h2
      exact ⟨a, t, id, off, b, rfl, h1, hgr1.ι.l _ _ hb, htv⟩
    rw [hed, hres] at hres'
    obtain ⟨vr, H3, cvr, g3, rfl, hrun, hi3, hgl3, hrep3⟩ := uj5 (tm := tm) hres' hi1 hcells
    cases Δ with
    | nil =>
      have hds : ds = [] := by cases ds <;> first | rfl | exact hrest.elim
      subst hds
      have : out0 = .ok vr H3 := by
        have : some (Out.ok vr H3) = some out0 := hΔ
        exact (Option.some.inj this).symm
      exact ⟨cvr, hrun, hR g3 vr H3 cvr w1 this (hgl.trans (hgl1.trans hgl3)) hi3 hrep3⟩
    | cons d2 Δ2 =>
      cases ds with
      | nil => exact hrest.elim
      | cons δ2 ds2 =>
        refine u7q hm0 hCD hres hprot hR Δ2 d2 δ2 ds2 (.ok vr H3) g3 H3 w1 .returning ⟨rfl, rfl⟩ hi3 (DefsOk.step (hgl1.trans hgl3).up.ι (hgl1.trans hgl3).up.im (fun t _ id off he => he) hrest) hΔ (hgl.trans (hgl1.trans hgl3)) (fun t ht id off he => ?_)
        obtain ⟨b, hb, htv⟩ := hpr t ht id off he
        exact ⟨b, (hgl1.trans hgl3).up.ι.l _ _ hb, htv⟩
end Go.Proofs.YtjcffopjohkmaaaDoor.Pi
namespace Go.Proofs.YtjcffopjohkmaaaDoor.Pi
variable {P : Program} {g : G} {L L' : Owner} {w w' : World} {H : Heap} {x : Nat} {env : Env}
theorem ub0 {args : List PV} {cargs : Array Value} {n : Nat} (h : ArgsOk g args cargs) : TOk 0 (g.ren upF) (args ++ List.replicate (n - args.length) .undef) (cargs ++ Array.replicate (n - cargs.size) undef) := by
  have hs := h.size
  refine ⟨by omega, by simp [hs], fun t v p hv hp => ?_, fun t p ht hp => ?_⟩
  · by_cases ht : t < args.length
    · rw [List.getElem?_append_left ht] at hp
      rw [Array.getElem?_append_left (by omega)] at hv
      obtain ⟨r, s⟩ := h.rep t p v hp hv
      exact r.still s (g' := g.ren upF) (IoLe.refl _) (fun _ _ _ h => h) _
    · rw [List.getElem?_append_right (by omega)] at hp
      have : p = .undef := by
        have := List.mem_of_getElem? hp
        simpa using (List.mem_replicate.mp this).2
      subst this
      exact .one (.undef _)
  · have h1 := (List.getElem?_eq_some_iff.mp hp).1
    simp [hs] at ht h1
    omega
theorem u5q {g' : G} (h : Glob g w g' w') : g.ι.length ≤ g'.ι.length := by
  rcases Nat.lt_or_ge g'.ι.length g.ι.length with h1 | h1
  · exfalso
    have h2 := h.up.ι.l g'.ι.length _ (List.getElem?_eq_getElem h1)
    have h3 : g'.ι.length < g'.io.l.length := (List.getElem?_eq_some_iff.mp h2).1
    exact absurd h3 (Nat.lt_irrefl _)
  · exact h1
theorem ujo {g1 : G} {w1 : World} {v : PV} {cv : Value} {H' : Heap} (hH : g.ι.length = H.length) (hgl : Glob (g.ren upF) w g1 w1) (hi : Inv g1 H' w1) (hr : RepT g1 .res v cv) (hl : v.low H.length = true)
    (hlow : ∀ (id : Nat) (cs : List PV) (o : Nat) (c : PV), id < H.length → H'[id]? = some (.cells cs) → cs[o]? = some c → c.low H.length = true) (hN : ∀ m, g.N = some m → m ≤ H.length) :
    CallPost g w (.ok v (H'.take H.length)) (.returned cv) w1 := by
  have hlen : g.ι.length ≤ g1.ι.length := u5q (g := g.ren upF) hgl
  have hi2 : Inv (g1.ren downF) H' w1 := hi.ren (fun _ _ => rfl)
  have hr2 : RepT (g1.ren downF) .res v cv := hr.ren rfl (fun _ => rfl)
  obtain ⟨a, b⟩ := out_of hgl (n := H.length) (by omega)
  have hN1 : g1.N = g.N := hgl.up.N
  exact ⟨_, a, b, cv, rfl, hi2.take (by have := hi.len; omega) hlow (fun m hm => hN m (by rw [← hN1]; exact hm)), hr2.lowT hl⟩
theorem uj6 {g1 : G} {w1 : World} {v : PV} {cv : Value} {H' : Heap} (hH : g.ι.length = H.length) (hgl : Glob (g.ren upF) w g1 w1) (hi : Inv g1 H' w1) (hr : RepT g1 .res v cv) :
    CallPost g w (.ok v H') (.returned cv) w1 := by
  have hlen : g.ι.length ≤ g1.ι.length := u5q (g := g.ren upF) hgl
  have hi2 : Inv (g1.ren downF) H' w1 := hi.ren (fun _ _ => rfl)
  have hr2 : RepT (g1.ren downF) .res v cv := hr.ren rfl (fun _ => rfl)
  obtain ⟨a, b⟩ := out_of hgl (n := g1.ι.length) hlen
  have e : ({ (g1.ren downF) with io := ⟨g1.ι.take g1.ι.length, g1.io.z⟩ } : G) = g1.ren downF := by simp [G.ren, G.ι]
  rw [e] at a b
  exact ⟨_, a, b, cv, rfl, hi2, hr2⟩
theorem ucu {g1 : G} {w1 : World} {v : PV} {cv : Value} {H' : Heap} (hH : g.ι.length = H.length) (hgl : Glob (g.ren upF) w g1 w1) (hi : Inv g1 H' w1) (hl : v.low H.length = true) (hr : Rep g1.io g1.im v cv)
    (hlow : ∀ (id : Nat) (cs : List PV) (o : Nat) (c : PV), id < H.length → H'[id]? = some (.cells cs) → cs[o]? = some c → c.low H.length = true) (hN : ∀ m, g.N = some m → m ≤ H.length) :
    CallPost g w (.pan v (H'.take H.length)) (.panicked [{ v := cv, recovered := false }]) w1 := by
  have hlen : g.ι.length ≤ g1.ι.length := u5q (g := g.ren upF) hgl
  have hi2 : Inv (g1.ren downF) H' w1 := hi.ren (fun _ _ => rfl)
  obtain ⟨a, b⟩ := out_of hgl (n := H.length) (by omega)
  have hN1 : g1.N = g.N := hgl.up.N
  exact ⟨_, a, b, cv, rfl, hi2.take (by have := hi.len; omega) hlow (fun m hm => hN m (by rw [← hN1]; exact hm)), hr.low hl⟩
theorem ud8 {g1 : G} {w1 : World} {v : PV} {cv : Value} {H' : Heap} (hH : g.ι.length = H.length) (hgl : Glob (g.ren upF) w g1 w1) (hi : Inv g1 H' w1) (hr : Rep g1.io g1.im v cv) :
    CallPost g w (.pan v H') (.panicked [{ v := cv, recovered := false }]) w1 := by
  have hlen : g.ι.length ≤ g1.ι.length := u5q (g := g.ren upF) hgl
  have hi2 : Inv (g1.ren downF) H' w1 := hi.ren (fun _ _ => rfl)
  obtain ⟨a, b⟩ := out_of hgl (n := g1.ι.length) hlen
  have e : ({ (g1.ren downF) with io := ⟨g1.ι.take g1.ι.length, g1.io.z⟩ } : G) = g1.ren downF := by simp [G.ren, G.ι]
  rw [e] at a b
  exact ⟨_, a, b, cv, rfl, hi2, hr⟩
def TrM (es : Bool) (H : Heap) (o out : Out PV) : Prop :=
  match o with
  | .ok v H' => (v.low H.length = true ∧ (es = true → H'.take H.length = H) ∧ out = .ok v (H'.take H.length)) ∨ ((es = false → v.low H.length = false) ∧ out = .ok v H')
  | .pan v H' => (v.low H.length = true ∧ (es = true → H'.take H.length = H) ∧ out = .pan v (H'.take H.length)) ∨ (es = true ∧ out = .pan v H')
theorem uei {es : Bool} {m : M PV} {out : Out PV} (h : trM es m H = some out) : ∃ o, m H = some o ∧ TrM es H o out := by
  cases es with
  | false =>
    have h : trunc m H = some out := h
    unfold trunc at h
    cases hm : m H with
    | none => rw [hm] at h; cases h
    | some o =>
      rw [hm] at h
      refine ⟨o, rfl, ?_⟩
      cases o with
      | ok v H' =>
        simp only [Option.some.injEq] at h
        subst h
        cases hl : v.low H.length with
        | true => exact .inl ⟨hl, fun h => (by cases h), rfl⟩
        | false => exact .inr ⟨fun _ => hl, rfl⟩
      | pan v H' =>
        have h : (bif v.low H.length then some (Out.pan v (H'.take H.length)) else none) = some out := h
        cases hl : v.low H.length with
        | false => rw [hl] at h; cases h
        | true =>
          rw [hl] at h
          simp only [cond_true, Option.some.injEq] at h
          subst h
          exact .inl ⟨hl, fun h => (by cases h), rfl⟩
  | true =>
    have h : truncE m H = some out := h
    unfold truncE at h
    cases hm : m H with
    | none => rw [hm] at h; cases h
    | some o =>
      rw [hm] at h
      refine ⟨o, rfl, ?_⟩
      cases o with
      | ok v H' =>
        dsimp only at h
        by_cases hc : v.low H.length = true ∧ H'.take H.length = H
        · rw [if_pos hc] at h
          cases h
          exact .inl ⟨hc.1, fun _ => hc.2, by rw [hc.2]⟩
        · rw [if_neg hc] at h
          cases h
          exact .inr ⟨fun h => (by cases h), rfl⟩
      | pan v H' =>
        dsimp only at h
        by_cases hc : v.low H.length = true ∧ H'.take H.length = H
        · rw [if_pos hc] at h
          cases h
          exact .inl ⟨hc.1, fun _ => hc.2, by rw [hc.2]⟩
        · rw [if_neg hc] at h
          cases h
          exact .inr ⟨rfl, rfl⟩
theorem ugg {es : Bool} {g1 : G} {w1 : World} {H' : Heap} (hm : Md es g) (hi0 : Inv g H w) (hN1 : g1.N = g.N) (hi : Inv g1 H' w1) (he : es = true → H'.take H.length = H) :
    ∀ (id : Nat) (cs : List PV) (o : Nat) (c : PV), id < H.length → H'[id]? = some (.cells cs) → cs[o]? = some c → c.low H.length = true := by
  intro id cs o c hid hy hc
  cases es with
  | true =>
    have h1 : H[id]? = some (.cells cs) := by
      rw [← he rfl, List.getElem?_take, if_pos hid]
      exact hy
    exact hi0.lowAll h1 hc
  | false =>
    obtain ⟨n, hn⟩ := hm.n rfl
    have h1 := hi.lowH id cs o c hy hc
    rw [hN1, hn] at h1
    have := hi0.nn n hn
    exact u1r (by omega) c h1
theorem uie {es : Bool} {g1 : G} {w1 : World} {v : PV} {cv : Value} {H' : Heap} {out : Out PV} (hm : Md es g) (hi0 : Inv g H w) (hgl : Glob (g.ren upF) w g1 w1) (hi : Inv g1 H' w1) (hr : RepT g1 .res v cv) (ho : TrM es H (.ok v H') out) :
    CallPost g w out (.returned cv) w1 := by
  rcases ho with ⟨h1, h2, rfl⟩ | ⟨_, rfl⟩
  · exact ujo hi0.len hgl hi hr h1 (ugg hm hi0 hgl.up.N hi h2) hi0.nn
  · exact uj6 hi0.len hgl hi hr
theorem ufr {es : Bool} {g1 : G} {w1 : World} {v : PV} {cv : Value} {H' : Heap} {out : Out PV} (hm : Md es g) (hi0 : Inv g H w) (hgl : Glob (g.ren upF) w g1 w1) (hi : Inv g1 H' w1) (hr : Rep g1.io g1.im v cv) (ho : TrM es H (.pan v H') out) :
    CallPost g w out (.panicked [{ v := cv, recovered := false }]) w1 := by
  rcases ho with ⟨h1, h2, rfl⟩ | ⟨_, rfl⟩
  · exact ucu hi0.len hgl hi h1 hr (ugg hm hi0 hgl.up.N hi h2) hi0.nn
  · exact ud8 hi0.len hgl hi hr
def ud6 : ResultVar → Bool
  | .cell _ _ => true
  | _ => false
def cellOf : ResultVar → Option Tmp
  | .tmp _ => none
  | .cell a _ => some a
theorem ubx (fn : Func) : protOf fn = bif fn.results.toList.all ud6 then fn.results.toList.filterMap cellOf else [] := rfl
theorem u6k {fn : Func} (h : protOf fn ≠ []) : ∀ r ∈ fn.results.toList, ∃ a t, r = .cell a t ∧ a ∈ protOf fn := by
  intro r hr
  rw [ubx] at h ⊢
  cases hc : fn.results.toList.all ud6 with
  | false => rw [hc] at h; exact absurd rfl h
  | true =>
    have h1 := List.all_eq_true.mp hc r hr
    cases r with
    | tmp t => cases h1
    | cell a t => exact ⟨a, t, rfl, List.mem_filterMap.mpr ⟨_, hr, rfl⟩⟩
theorem uj2 {fn : Func} : ∀ t ∈ protOf fn, t ∈ u57 fn := by
  intro t ht
  rw [ubx] at ht
  cases hc : fn.results.toList.all ud6 with
  | false => rw [hc] at ht; simp at ht
  | true =>
    rw [hc] at ht
    obtain ⟨r, hr, he⟩ := List.mem_filterMap.mp ht
    cases r with
    | tmp s => cases he
    | cell a s =>
      cases he
      exact List.mem_map.mpr ⟨_, hr, rfl⟩
theorem ucg {C : CallT} {CD : Option PV → CallT} {LL : Bool → Option (Option PV) → List Tmp → (Env → M PV) → LoopT} (hC : u50 P C) (hCD : u9q P CD) {f : FuncId}
    (hL : ∀ fn, LSound (callDG (EF f) CD) ⟨P, protOf fn, EF f, callG (EF f) C, callDG (EF f) CD, none, resM P fn⟩ (LL (EF f) none (protOf fn) (resM P fn))) {args : List PV} {out : Out PV} (h : fnDen P C CD LL f args H = some out) :
    u1f P f = true ∧ ∀ g w cargs, Md (EF f) g → Inv g H w → ArgsOk g args cargs → Calls P f cargs w (CallPost g w out) := by
  unfold fnDen at h
  cases hf : P.funcs[f]? with
  | none => rw [hf] at h; exact (u00 (H := H) h).elim
  | some fn =>
    rw [hf] at h
    dsimp only at h
    cases hb : fn.body with
    | none => rw [hb] at h; exact (u00 (H := H) h).elim
    | some b =>
      rw [hb] at h
      dsimp only at h
      obtain ⟨hn, h⟩ := u02 h
      refine ⟨by unfold u1f; rw [hf]; simp only [hn, hb]; rfl, fun g w cargs hmd hi ha => ?_⟩
      obtain ⟨out0, hm, htr⟩ := uei h
      · have hmu : Md (EF f) (g.ren upF) := ⟨hmd.e, hmd.n⟩
        have hret : ∀ g1 v H' cv w1, out0 = .ok v H' → Glob (g.ren upF) w g1 w1 → Inv g1 H' w1 → RepT g1 .res v cv → CallPost g w out (.returned cv) w1 := by
          intro g1 v H' cv w1 ho hgl hi1 hr
          subst ho
          exact uie hmd hi hgl hi1 hr htr
        have hpan : ∀ g1 v H' cv w1, out0 = .pan v H' → Glob (g.ren upF) w g1 w1 → Inv g1 H' w1 → Rep g1.io g1.im v cv → CallPost g w out (.panicked [{ v := cv, recovered := false }]) w1 := by
          intro g1 v H' cv w1 ho hgl hi1 hr
          subst ho
          exact ufr hmd hi hgl hi1 hr htr
        refine calls_of_wp_defers hf hb ?_
        have hptr : ∀ {env : Env} {a : Act} {g1 : G} {tm : Array Value}, TOk 0 g1 env tm → ∀ t ∈ protOf fn, ∀ id off, env.getD t .undef = .ptr id off → ∃ b, g1.ι[id]? = some b ∧ tm.getD t undef = .pointer (some ⟨b, off, none⟩) := by
          intro env a g1 tm hT t _ id off he
          have := ev_tmp hT t
          rw [he] at this
          exact this.ptr
        refine u1s (c := ⟨P, protOf fn, EF f, callG (EF f) C, callDG (EF f) CD, none, resM P fn⟩) (CDN := callDG (EF f) CD) (u30 hC) rfl (fun _ _ _ => Le.refl _) (hL fn) b (u57 fn) _ (bodyPostD P fn (CallPost g w out)) (g.ren upF) w out0 uj2 (fun e => ?_) ?_ _ _ w (g.ren upF) H [] out0 (Glob.refl _ _) ⟨hi.ren (fun _ _ => rfl), ub0 ha, True.intro, hmu⟩ hm rfl
        · -- the end of the body
          have fin : ∀ Δ o g1 H1 env a w1, resM P fn env H1 = some o → unw (callDG (EF f) CD) Δ o = some out0 → Glob (g.ren upF) w g1 w1 → Sta ⟨P, protOf fn, EF f, callG (EF f) C, callDG (EF f) CD, none, resM P fn⟩ g1 H1 env a w1 Δ → Leaves P fn a.tmps (CallPost g w out) a.defers .returning w1 := by
            intro Δ o g1 H1 env a w1 hk hu hgl hS
            obtain ⟨v, H', cv, g2, rfl, hrun, hi2, hgl2, hr2⟩ := ukt hk hS.inv hS.tok
            have hd := hS.defs
            cases Δ with
            | nil =>
              cases hdf : a.defers with
              | cons δ ds => rw [hdf] at hd; exact hd.elim
              | nil =>
                have ho : out0 = .ok v H' := (Option.some.inj hu).symm
                exact ⟨cv, hrun, hret g2 v H' cv w1 ho (hgl.trans hgl2) hi2 hr2⟩
            | cons d Δ =>
              cases hdf : a.defers with
              | nil => rw [hdf] at hd; exact hd.elim
              | cons δ ds =>
                rw [hdf] at hd
                refine u7q hmu (u5c hCD) rfl (fun hne => u6k hne) (fun g v H cv w h1 h2 h3 h4 => hret g v H cv w h1 h2 h3 h4) Δ d δ ds (.ok v H') g2 H' w1 .returning ⟨rfl, rfl⟩ hi2 (DefsOk.step hgl2.up.ι hgl2.up.im (fun t _ id off he => he) hd) hu (hgl.trans hgl2) (fun t ht id off he => ?_)
                obtain ⟨b, hb, htv⟩ := hptr (a := a) hS.tok t ht id off he
                exact ⟨b, hgl2.up.ι.l _ _ hb, htv⟩
          cases e with
          | normal => exact fin
          | ret => exact fin
          | exit id => exact fun Δ o g1 H1 env a w1 hk => (u00 (H := H1) hk).elim
        · -- a panic
          intro Δ v H1 g1 env a w1 cv hu hgl hS hr
          have hd := hS.defs
          show Leaves P fn a.tmps (CallPost g w out) a.defers (.panicking [{ v := cv, recovered := false }]) w1
          cases Δ with
          | nil =>
            cases hdf : a.defers with
            | cons δ ds => rw [hdf] at hd; exact hd.elim
            | nil => exact hpan g1 v H1 cv w1 (Option.some.inj hu).symm hgl hS.inv hr
          | cons d Δ =>
            cases hdf : a.defers with
            | nil => rw [hdf] at hd; exact hd.elim
            | cons δ ds =>
              rw [hdf] at hd
              exact u7q hmu (u5c hCD) rfl (fun hne => u6k hne) (fun g v H cv w h1 h2 h3 h4 => hret g v H cv w h1 h2 h3 h4) Δ d δ ds (.pan v H1) g1 H1 w1 _ ⟨rfl, cv, rfl, hr⟩ hS.inv hd hu hgl (hptr (a := a) hS.tok)
end Go.Proofs.YtjcffopjohkmaaaDoor.Pi
namespace Go.Proofs.YtjcffopjohkmaaaDoor.Pi
variable {P : Program} {g : G} {L L' : Owner} {w w' : World} {H : Heap} {x : Nat} {env : Env}
def slotV (env : Env) : PV := env.getD (env.length - 1) .undef
theorem ModeOk.mono {rv : Option PV} {u : FrameMode} (h : ModeOk g rv u) {g' : G} (hι : IoLe g.io g'.io) (him : ∀ b o v, g.im b o = some v → g'.im b o = some v) : ModeOk g' rv u := by
  cases rv with
  | none => exact h
  | some p => obtain ⟨cv, h1, h2⟩ := h; exact ⟨cv, h1, h2.mono hι him⟩
theorem u9t {tm : Array Value} (hT : TOk 1 g env tm) : slotV env = .undef ∨ slotV env = .tup [] := by
  have hl := hT.len
  have h1 : env.length - 1 < env.length := by omega
  unfold slotV
  rw [List.getD_eq_getElem?_getD, List.getElem?_eq_getElem h1]
  exact hT.slot (env.length - 1) _ (by omega) (List.getElem?_eq_getElem h1)
theorem u6o {tm : Array Value} (hT : TOk 1 g env tm) (s : Option (Tmp × Option Nat)) : slotV (giveUp env s) = slotV env := by
  have hs := u9t hT
  unfold slotV at hs ⊢
  rw [u1h]
  unfold giveUp
  split
  · rw [u1q]
    split
    · rename_i hh
      rw [hh.1]
      exact u54 hs
    · rfl
  · rw [u1q]
    split
    · rename_i hh
      rw [hh.1]
      exact u3a _ hs
    · rfl
  · rfl
theorem u9p {d : Nat} {v : PV} (hd : d + 1 < env.length) : slotV (env.set d v) = slotV env := by
  unfold slotV
  rw [List.length_set, u1q, if_neg (by omega)]
theorem u5s {pr : List Tmp} {d : Tmp} (h : okDst true pr env (some d) = true) : d + 1 < env.length := by
  unfold okDst at h
  simp only [Bool.and_eq_true, Bool.or_eq_true, Bool.not_eq_true', decide_eq_true_eq] at h
  rcases h.2 with h1 | h1
  · cases h1
  · exact h1
theorem ujg {rc : Option (Option PV)} {pr : List Tmp} {ops : Array Oper} {o : Oper} {v : PV} {tm : Array Value} (hT : TOk 1 g env tm) (hr : u05 o = false) (hd : okDst true pr env o.dst = true) : slotV (put rc ops env o v) = slotV env := by
  have htook : took rc o (giveUp env (given ops o)) = giveUp env (given ops o) := by
    unfold took
    simp [hr]
  unfold Pi.put
  rw [htook]
  cases hdst : o.dst with
  | none => exact u6o hT _
  | some d =>
    rw [hdst] at hd
    have h1 := u5s hd
    show slotV ((giveUp env (given ops o)).set d v) = _
    rw [u9p (by rw [u1h]; exact h1)]
    exact u6o hT _
structure StaD (c : Ctx) (rv : Option PV) (u : FrameMode) (g : G) (H : Heap) (env : Env) (a : Act) (w : World) (m : FrameMode) : Prop where
  sta : Sta c g H env a w []
  mode : ModeOk g rv u
  now : m = u17 (slotV env) u
  defs : a.defers = []
theorem u8x (a : Act) (d : Option Tmp) (v : Value) : (a.put d v).defers = a.defers := by cases d <;> rfl
theorem ul9 {c : Ctx} {a : Act} (h : a.defers = []) : DefsOk c g env [] a.defers := by rw [h]; exact True.intro
theorem TOk.took {tm : Array Value} (h : TOk 1 g env tm) : TOk 1 g (env.set (env.length - 1) (.tup [])) tm := by
  have hl := h.len
  refine ⟨h.one, by simp [hl], fun t v p hv hp => ?_, fun t p ht hp => ?_⟩
  · have h1 := (Array.getElem?_eq_some_iff.mp hv).1
    rw [List.getElem?_set_ne (by omega)] at hp
    exact h.val t v p hv hp
  · by_cases e : env.length - 1 = t
    · subst e
      rw [List.getElem?_set_self (by omega)] at hp
      cases hp
      exact .inr rfl
    · rw [List.getElem?_set_ne e] at hp
      exact h.slot t p ht hp
theorem uju {c : Ctx} {rv : Option PV} {u m : FrameMode} {a : Act} {ops : Array Oper} {o : Oper} {v : PV} {cv : Value} (hrc : c.rc = some rv) (hS : StaD c rv u g H env a w m) (hrec : u05 o = true) (hgv : given ops o = none)
    (hd : okDst true c.prot env o.dst = true) (hv : ∀ L, RepT g L v cv) : Sta c g H (put c.rc ops env o v) (a.put o.dst cv) w [] ∧ slotV (put c.rc ops env o v) = .tup [] := by
  have hT : TOk 1 g env a.tmps := by
    have := hS.sta.tok
    rw [hrc] at this
    exact this
  have hl := hT.len
  have htook : took c.rc o (giveUp env (given ops o)) = env.set (env.length - 1) (.tup []) := by
    rw [hgv, hrc]
    unfold took giveUp
    simp [hrec]
  have hs : slotV (env.set (env.length - 1) (.tup [])) = .tup [] := by
    unfold slotV
    rw [List.length_set, u1q, if_pos ⟨rfl, by omega⟩]
  have hx : xOf c.rc = 1 := by rw [hrc]; rfl
  refine ⟨⟨hS.sta.inv, ?_, by rw [u8x]; exact ul9 (by rw [hS.defs]), hS.sta.md⟩, ?_⟩
  · unfold Pi.put
    rw [htook, hx]
    cases hdst : o.dst with
    | none => exact hT.took
    | some d =>
      rw [hdst] at hd
      exact hT.took.put (.inr (by rw [List.length_set]; exact u5s hd)) (hv _)
  · unfold Pi.put
    rw [htook]
    cases hdst : o.dst with
    | none => exact hs
    | some d =>
      rw [hdst] at hd
      show slotV ((env.set (env.length - 1) (.tup [])).set d v) = _
      rw [u9p (by rw [List.length_set]; exact u5s hd)]
      exact hs
theorem u5j (v : PV) : u17 v .returning = .returning := by
  unfold u17
  split <;> first | rfl | (rename_i h; cases h) | rfl
def LeafD (c : Ctx) (rv : Option PV) (u : FrameMode) (c0 : Frame) (cs0 : List Frame) (g0 : G) (w0 : World) (out : Out PV) (k : Env → M PV) (Q : Act → List Frame → World → Prop) : Prop :=
  ∀ env a w g H m, Glob g0 w0 g w → StaD c rv u g H env a w m → k env H = some out → Q a ({ c0 with mode := m } :: cs0) w
variable {c : Ctx} {rv : Option PV} {u : FrameMode} {c0 : Frame} {cs0 : List Frame} {g0 : G} {w0 : World} {v0 : PV} {H0 : Heap}
theorem u4e (hC : CSound c.P c.es c.C) (hrc : c.rc = some rv) {ops : Array Oper} {k : Env → M PV} {Q : Exit → Act → List Frame → World → Prop} (hleaf : LeafD c rv u c0 cs0 g0 w0 (.ok v0 H0) k (Q .normal)) :
    ∀ (l : List Oper) (i : Nat) (env : Env) (a : Act) (w : World) (g : G) (H : Heap) (m : FrameMode), (∀ j, l[j]? = ops[i + j]?) → (∀ o ∈ l, u3v o = true) → Glob g0 w0 g w → StaD c rv u g H env a w m →
      dOps c ops l env k H = some (.ok v0 H0) → wpOpsS c.P ops Q (List.range' i l.length) a ({ c0 with mode := m } :: cs0) w
  | [], i, env, a, w, g, H, m, hl, hs, hgl, hS, h => hleaf env a w g H m hgl hS h
  | o :: r, i, env, a, w, g, H, m, hl, hs, hgl, hS, h => by
    have hr : ∀ j, r[j]? = ops[i + 1 + j]? := fun j => by
      have := hl (j + 1)
      rw [List.getElem?_cons_succ] at this
      rw [this]
      congr 1
      omega
    have ho : ops[i]? = some o := by
      have := hl 0
      simpa using this.symm
    have hso := hs o List.mem_cons_self
    have hsr : ∀ o ∈ r, u3v o = true := fun q hq => hs q (List.mem_cons_of_mem _ hq)
    rw [List.length_cons, u7m]
    simp only [wpOpsS, ho]
    rw [u38] at h
    obtain ⟨hok, h⟩ := u02 h
    have hok' : okDst true c.prot env o.dst = true := by
      rw [hrc] at hok
      exact hok
    have hT : TOk 1 g env a.tmps := by
      have := hS.sta.tok
      rw [hrc] at this
      exact this
    have h : M.bind (gval c.P c.C c.es c.rc ops env o) (fun v => dOps c ops r (put c.rc ops env o v) k) H = some (.ok v0 H0) := by
      obtain ⟨dst, op, ty, pos, after, guard⟩ := o
      cases op <;> first | exact h | (simp [u3v] at hso)
    unfold M.bind at h
    cases hg : gval c.P c.C c.es c.rc ops env o H with
    | none => rw [hg] at h; simp at h
    | some o1 =>
      rw [hg] at h
      cases o1 with
      | pan v H1 => simp at h
      | ok v H1 =>
        have hnx : dOps c ops r (put c.rc ops env o v) k H1 = some (.ok v0 H0) := h
        clear h
        cases hrec : u05 o with
        | false =>
          have hst := ud4 (Q := fun e a w => Q e a ({ c0 with mode := m } :: cs0) w) (next := fun a w => wpOpsS c.P ops Q (List.range' (i + 1) r.length) a ({ c0 with mode := m } :: cs0) w)
            hC (.inr hrec) hS.sta hok hg (fun v' H1' g' a' w' he hgl' hS' => by
              cases he
              have hda : a'.defers = [] := by
                have := hS'.defs
                cases hd : a'.defers with
                | nil => rfl
                | cons x y => rw [hd] at this; exact this.elim
              refine u4e hC hrc hleaf r (i + 1) _ a' w' g' H1 m hr hsr (hgl.trans hgl') ⟨hS', hS.mode.mono hgl'.up.ι hgl'.up.im, ?_, hda⟩ hnx
              rw [ujg hT hrec hok']
              exact hS.now) (fun v' H1' g' w' cv he => by cases he)
          split
          · rename_i hw
            rw [if_pos hw] at hst
            unfold Oper.wp at hst
            generalize (execOp a.eval o).run c.P w = q at hst ⊢
            split
            · exact (show False from hst).elim
            · exact hst
          · rename_i hw
            rw [if_neg hw] at hst
            exact hst
        | true =>
          obtain ⟨dst, op, ty, pos, after, guard⟩ := o
          cases op with
          | call cl =>
            obtain ⟨callee, args, tys⟩ := cl
            cases callee with
            | builtin b =>
              cases b with
              | recover =>
                have hgd : guard = none := by
                  cases guard with
                  | none => rfl
                  | some q => simp [u3v, hrec] at hso
                subst hgd
                have hv : v = recV c.rc env ∧ H1 = H := by
                  have hg2 : opVal c.P c.C c.es c.rc ops env ⟨dst, .call ⟨.builtin .recover, args, tys⟩, ty, pos, after, none⟩ H = some (.ok v H1) := hg
                  rw [hrc] at hg2 ⊢
                  have hg3 : M.pure (recV (some rv) env) H = some (.ok v H1) := hg2
                  simp only [M.pure, Option.some.injEq, Out.ok.injEq] at hg3
                  exact ⟨hg3.1.symm, hg3.2.symm⟩
                obtain ⟨rfl, rfl⟩ := hv
                have hrun : (execOp a.eval ⟨dst, .call ⟨.builtin .recover, args, tys⟩, ty, pos, after, none⟩).run c.P w = .ok .recover w := rfl
                have hw : Region.wanted ⟨dst, .call ⟨.builtin .recover, args, tys⟩, ty, pos, after, none⟩ (yielded ops a.tmps) = true := rfl
                rw [if_pos hw, hrun]
                dsimp only
                have fin : ∀ (cv : Value) (m' : FrameMode), (∀ L, RepT g L (recV c.rc env) cv) → m' = u17 (.tup []) u → wpOpsS c.P ops Q (List.range' (i + 1) r.length) (a.put dst cv) ({ c0 with mode := m' } :: cs0) w := by
                  intro cv m' hv hm
                  obtain ⟨h1, h2⟩ := uju (ops := ops) hrc hS hrec rfl hok' hv
                  exact u4e hC hrc hleaf r (i + 1) _ _ w g H1 m' hr hsr hgl ⟨h1, hS.mode, by rw [h2]; exact hm, by rw [u8x]; exact hS.defs⟩ hnx
                have hnil : ∀ L, RepT g L .niliface .nilIface := fun L => rT (.flat .niliface) _
                have hmode := hS.mode
                have hnow := hS.now
                cases rv with
                | none =>
                  have hu : u = .returning := hmode
                  subst hu
                  rw [u5j] at hnow
                  subst hnow
                  refine fin .nilIface _ (fun L => ?_) (u5j _).symm
                  rw [hrc]
                  exact hnil L
                | some p =>
                  obtain ⟨cv, rfl, hp⟩ := hmode
                  rcases u9t hT with hsl | hsl
                  · rw [hsl] at hnow
                    subst hnow
                    refine fin cv _ (fun L => ?_) rfl
                    have : recV c.rc env = p := by
                      rw [hrc]
                      unfold recV
                      show (match slotV env with | .tup [] => PV.niliface | _ => p) = p
                      rw [hsl]
                    rw [this]
                    exact rT hp L
                  · rw [hsl] at hnow
                    subst hnow
                    refine fin .nilIface _ (fun L => ?_) rfl
                    have : recV c.rc env = .niliface := by
                      rw [hrc]
                      unfold recV
                      show (match slotV env with | .tup [] => PV.niliface | _ => p) = _
                      rw [hsl]
                    rw [this]
                    exact hnil L
              | _ => cases hrec
            | _ => cases hrec
          | _ => cases hrec
theorem ugt {rc : Option (Option PV)} {pr : List Tmp} {ops : Array Oper} {o : Oper} {v : PV} (hs : slotV env = .undef ∨ slotV env = .tup []) (hr : u05 o = false) (hd : okDst true pr env o.dst = true) : slotV (put rc ops env o v) = slotV env := by
  have hg : slotV (giveUp env (given ops o)) = slotV env := by
    unfold slotV at hs ⊢
    rw [u1h]
    unfold giveUp
    split
    · rw [u1q]
      split
      · rename_i hh
        rw [hh.1]
        exact u54 hs
      · rfl
    · rw [u1q]
      split
      · rename_i hh
        rw [hh.1]
        exact u3a _ hs
      · rfl
    · rfl
  have htook : took rc o (giveUp env (given ops o)) = giveUp env (given ops o) := by
    unfold took
    simp [hr]
  unfold Pi.put
  rw [htook]
  cases hdst : o.dst with
  | none => exact hg
  | some d =>
    rw [hdst] at hd
    have h1 := u5s hd
    show slotV ((giveUp env (given ops o)).set d v) = _
    rw [u9p (by rw [u1h]; exact h1)]
    exact hg
theorem u2i (hC : CSound c.P c.es c.C) (hrc : c.rc = some rv) {LL : LoopT} :
    ∀ (co : Code) (af : List Tmp) (k : K) (Q : Exit → Act → List Frame → World → Prop), u1y co = true → (∀ e, LeafD c rv u c0 cs0 g0 w0 (.ok v0 H0) (k e) (Q e.to)) →
      ∀ env a w g H m, Glob g0 w0 g w → StaD c rv u g H env a w m → den c LL af co env k H = some (.ok v0 H0) → co.wpS c.P Q a ({ c0 with mode := m } :: cs0) w
  | .skip, af, k, Q, hs, hk, env, a, w, g, H, m, hgl, hS, h => wpS_of_wp (wp_skip (hk .normal env a w g H m hgl hS h))
  | .ret, af, k, Q, hs, hk, env, a, w, g, H, m, hgl, hS, h => wpS_of_wp (wp_ret (hk .ret env a w g H m hgl hS h))
  | .region id ops false, af, k, Q, hs, hk, env, a, w, g, H, m, hgl, hS, h => by
    refine wpS_region ?_
    have hs' : ∀ o ∈ ops.toList, u3v o = true := fun o ho => List.all_eq_true.mp hs o ho
    have := u4e (Q := Q) hC hrc (hk .normal) ops.toList 0 env a w g H m (fun j => by simp) hs' hgl hS h
    rwa [List.range_eq_range', ← Array.length_toList]
  | .region id ops true, af, k, Q, hs, hk, env, a, w, g, H, m, hgl, hS, h => by
    have h : guardM (c.P.follows .mixedOrders && commB ops) (bif modeA ops && (c.rc.isNone && (c.prot.isEmpty && !c.es)) then dOpsAA c ops env (k .normal) else bif modeP ops && c.rc.isNone then dOpsP c ops env (k .normal) else bif ops.any u0e || c.rc.isSome then dOpsW c ops 0 [] ops.toList env (k .normal) else dOpsN c ops ops.toList env (k .normal)) H = some (.ok v0 H0) := h
    obtain ⟨hg, h⟩ := u02 h
    simp only [Bool.and_eq_true] at hg
    have hbr : (ops.any u0e || c.rc.isSome) = true := by rw [hrc]; simp
    have hbp : (modeP ops && c.rc.isNone) = false := by rw [hrc]; simp
    have hba : (modeA ops && (c.rc.isNone && (c.prot.isEmpty && !c.es))) = false := by rw [hrc]; simp
    rw [hba, hbp, hbr] at h
    have hT : TOk 1 g env a.tmps := by
      have := hS.sta.tok
      rw [hrc] at this
      exact this
    obtain ⟨e', H', L, l1, _, l3, l4, hk'⟩ := uch ops.toList [] 0 env H (fun j => by simp) h
    refine wpS_of_wp (wp_region_any hg.1 (u2n (c := c) (Q := fun e a w => Q e a ({ c0 with mode := m } :: cs0) w) hC hg.2 (R := fun l e K => slotV e = slotV env ∧ RW c ops e' H' l e K) (Δ := []) (g0 := g) (w0 := w)
      (fun A i B oi e K hi ha hnb hR => ?_) (fun e K g' a' w' hR hgl' hS' => ?_) ops.size _ env H a _ g (by simp) ?_ ?_ ?_ (u2o g w) hS.sta.drew))
    · obtain ⟨r1, r2⟩ := hR
      obtain ⟨h1, v, H1, h2, h3⟩ := RW.front hg.2 A i B oi e K hi ha hnb r2
      refine ⟨h1, v, H1, h2, ?_, h3⟩
      rw [hrc] at h1
      rw [ugt (by rw [r1]; exact u9t hT) (u0o hg.2 hi).1 h1, r1]
    · obtain ⟨r1, r2⟩ := hR
      obtain ⟨rfl, rfl⟩ := r2.nil
      refine hk .normal e a' w' g' K m (hgl.trans hgl') ⟨hS', hS.mode.mono hgl'.up.ι hgl'.up.im, by rw [r1]; exact hS.now, ?_⟩ hk'
      have := hS'.defs
      cases hd : a'.defers with
      | nil => rfl
      | cons x y => rw [hd] at this; exact this.elim
    · exact Nat.le_trans (List.length_filter_le _ _) (by simp)
    · intro j i hj hl
      simp [Array.getD_eq_getD_getElem?, hj] at hl
    · refine ⟨rfl, ?_⟩
      have hall : restOf ops (Array.replicate ops.size false) = List.range' 0 ops.toList.length := by
        unfold restOf
        rw [List.filter_eq_self.mpr, List.range_eq_range', Array.length_toList]
        intro i hi
        simp [Array.getD_eq_getD_getElem?, List.mem_range.mp hi]
      rw [hall]
      exact ⟨L, l1, l3, l4⟩
  | .seq y z, af, k, Q, hs, hk, env, a, w, g, H, m, hgl, hS, h => by
    have hs1 : u1y y = true ∧ u1y z = true := by simpa [u1y] using hs
    refine wpS_seq (u2i hC hrc y ((rw z).1 ++ af) _ (Exit.thenS (z.wpS c.P Q) Q) hs1.1 (fun e => ?_) env a w g H m hgl hS h)
    cases e with
    | normal =>
      intro env a w g H m hgl hS h
      have h : (bif c.rc.isNone && joinB y then LL af z (keep ((rw z).1 ++ af) env) k else den c LL af z env k) H = some (.ok v0 H0) := h
      rw [hrc] at h
      exact u2i hC hrc z af k Q hs1.2 hk env a w g H m hgl hS h
    | exit id => exact hk (.exit id)
    | ret => exact hk .ret
  | .cond q y z, af, k, Q, hs, hk, env, a, w, g, H, m, hgl, hS, h => by
    have hs1 : u1y y = true ∧ u1y z = true := by simpa [u1y] using hs
    have rq := ev_rep hS.sta.inv hS.sta.tok q
    have h : condM (ev env q) (den c LL af y env k) (den c LL af z env k) H = some (.ok v0 H0) := h
    unfold condM at h
    cases hv : ev env q with
    | bool b =>
      rw [hv] at h rq
      have hq := rq.bool
      dsimp only at h
      refine wpS_cond hq ?_
      cases b
      · exact u2i hC hrc z af k Q hs1.2 hk env a w g H m hgl hS h
      · exact u2i hC hrc y af k Q hs1.1 hk env a w g H m hgl hS h
    | _ => (rw [hv] at h; exact (u00 (H := H) h).elim)
theorem TOk.slotted {tm : Array Value} (h : TOk 0 g env tm) : TOk 1 g (env ++ [.undef]) tm := by
  have hl := h.len
  refine ⟨Nat.le_refl 1, by simp [hl], fun t v p hv hp => ?_, fun t p ht hp => ?_⟩
  · have h1 := (Array.getElem?_eq_some_iff.mp hv).1
    rw [List.getElem?_append_left (by omega)] at hp
    exact h.val t v p hv hp
  · rw [List.getElem?_append_right (by omega)] at hp
    have := List.mem_of_getElem? hp
    exact .inl (by simpa using this)
theorem ufp {m : M PV} {o : Out PV} (h : noPan m H = some o) : ∃ v H', o = .ok v H' ∧ m H = some (.ok v H') := by
  unfold noPan at h
  split at h
  · rename_i v H' hm
    cases h
    exact ⟨v, H', rfl, hm⟩
  · cases h
theorem ujp {es : Bool} {m : M PV} {v : PV} {H' : Heap} (h : trM es m H = some (.ok v H')) : ∃ H1, m H = some (.ok v H1) ∧ TrM es H (.ok v H1) (.ok v H') := by
  obtain ⟨o, h1, h2⟩ := uei h
  cases o with
  | ok v1 H1 =>
    have : v1 = v := by rcases h2 with ⟨_, _, h⟩ | ⟨_, h⟩ <;> cases h <;> rfl
    subst this
    exact ⟨H1, h1, h2⟩
  | pan v1 H1 => rcases h2 with ⟨_, _, h⟩ | ⟨_, h⟩ <;> cases h
theorem ual {C : CallT} {CD : Option PV → CallT} {LL : Bool → Option (Option PV) → List Tmp → (Env → M PV) → LoopT} (hC : u50 P C) {rv : Option PV} {f : FuncId} {args : List PV} {out : Out PV} (h : fnDenD P C CD LL rv f args H = some out) :
    u1f P f = true ∧ ∃ v H', out = .ok v H' ∧ ∀ g w cargs u, Md (EF f) g → Inv g H w → ArgsOk g args cargs → ModeOk g rv u →
      CallsD P f cargs u w fun e u' w' => ∃ g' cv, Glob g w g' w' ∧ Grow u1z g g' ∧ e = .returned cv ∧ Inv g' H' w' ∧ u' = u17 v u := by
  unfold fnDenD at h
  cases hf : P.funcs[f]? with
  | none => rw [hf] at h; exact (u00 (H := H) h).elim
  | some fn =>
    rw [hf] at h
    dsimp only at h
    cases hb : fn.body with
    | none => rw [hb] at h; exact (u00 (H := H) h).elim
    | some b =>
      rw [hb] at h
      dsimp only at h
      obtain ⟨hn, h⟩ := u02 h
      simp only [Bool.and_eq_true] at hn
      obtain ⟨hsb, hre, hn⟩ := hn
      obtain ⟨v, H', rfl, h2⟩ := ufp h
      obtain ⟨H1, h3, htr⟩ := ujp h2
      refine ⟨by unfold u1f; rw [hf]; simp only [hn, hb]; rfl, v, _, rfl, fun g w cargs u hmd hi ha hm => ?_⟩
      refine callsD_of_wpS hf hb fun c₀ cs hu => ?_
      have hend : ∀ (env : Env) (a : Act) (w1 : World) (g1 : G) (H2 : Heap) (m : FrameMode), Glob (g.ren upF) w g1 w1 → StaD ⟨P, protOf fn, EF f, callG (EF f) C, callDG (EF f) CD, some rv, resM P fn⟩ rv u g1 H2 env a w1 m → M.pure (env.getD (env.length - 1) .undef) H2 = some (.ok v H1) →
          a.defers = [] ∧ ∃ u', ({ c₀ with mode := m } : Frame) :: cs = { c₀ with mode := u' } :: cs ∧ ∃ vv, (results fn a.tmps).run P w1 = .ok vv w1 ∧ ∃ g' cv, Glob g w g' w1 ∧ Grow u1z g g' ∧ Ending.returned vv = .returned cv ∧ Inv g' H' w1 ∧ u' = u17 v u := by
        intro env a w1 g1 H2 m hgl hS hp
        simp only [M.pure, Option.some.injEq, Out.ok.injEq] at hp
        obtain ⟨hv, rfl⟩ := hp
        have hrs : (results fn a.tmps).run P w1 = .ok (.tuple #[]) w1 := by
          have he : fn.results.toList = [] := by
            have : fn.results = #[] := by simpa using hre
            rw [this]
          have := u6m (P := P) (w := w1) (fn := fn) (tm := a.tmps) (vs := []) (by rw [he]; rfl)
          simpa using this
        have hsl : v = .undef ∨ v = .tup [] := by
          have := u9t (hS.sta.tok : TOk 1 g1 env a.tmps)
          rw [← hv]
          exact this
        have hrep : RepT g1 .res v (.tuple #[]) := by
          rcases hsl with rfl | rfl
          · exact .one (.undef _)
          · exact .tup rfl fun j p q hp => by simp at hp
        obtain ⟨g', h1, h2, cv, h3, h4, h5⟩ := uie hmd hi hgl hS.sta.inv hrep htr
        refine ⟨hS.defs, m, rfl, _, hrs, g', cv, h1, h2, h3, h4, ?_⟩
        rw [hS.now, ← hv]
        rfl
      have hst : StaD ⟨P, protOf fn, EF f, callG (EF f) C, callDG (EF f) CD, some rv, resM P fn⟩ rv u (g.ren upF) H (args ++ List.replicate (fn.ntmps - args.length) .undef ++ [.undef]) { tmps := cargs ++ Array.replicate (fn.ntmps - cargs.size) undef, defers := [] } w u := by
        refine ⟨⟨hi.ren (fun _ _ => rfl), (ub0 ha).slotted, True.intro, ⟨hmd.e, hmd.n⟩⟩, hm.mono (IoLe.refl _) (fun _ _ _ h => h), ?_, rfl⟩
        have : slotV (args ++ List.replicate (fn.ntmps - args.length) .undef ++ [.undef]) = .undef := by
          unfold slotV
          simp
        rw [this]
        unfold u17
        split <;> first | rfl | (rename_i h; cases h)
      have := u2i (c := ⟨P, protOf fn, EF f, callG (EF f) C, callDG (EF f) CD, some rv, resM P fn⟩) (u := u) (c0 := c₀) (cs0 := cs) (g0 := g.ren upF) (w0 := w) (u30 hC) rfl b (fn.ntmps :: u57 fn) _ (bodyPostS P fn c₀ cs fun e u' w' => ∃ g' cv, Glob g w g' w' ∧ Grow u1z g g' ∧ e = .returned cv ∧ Inv g' H' w' ∧ u' = u17 v u) hsb (fun e => ?_) _ _ w (g.ren upF) H u (Glob.refl _ _) hst h3
      · have e : ({ c₀ with mode := u } : Frame) = c₀ := by rw [← hu]
        rw [e] at this
        exact this
      · cases e with
        | normal => exact fun env a w g H m hgl hS h => hend env a w g H m hgl hS h
        | ret => exact fun env a w g H m hgl hS h => hend env a w g H m hgl hS h
        | exit id => exact fun env a w g H m hgl hS h => (u00 (H := H) h).elim
end Go.Proofs.YtjcffopjohkmaaaDoor.Pi
namespace Go.Proofs.YtjcffopjohkmaaaDoor.Pi
variable {P : Program} {X : ExtT} {H : Heap}
def XSound (P : Program) (X : ExtT) : Prop :=
  ∀ f m, X f = some m → ∀ args H out, m args H = some out → u1f P f = true ∧ ∀ g w cargs, Md (EF f) g → Inv g H w → ArgsOk g args cargs → Calls P f cargs w (CallPost g w out)
theorem ug5 (hX : XSound P X) (n : Nat) : u50 P (sem P X n).C ∧ u9q P (sem P X n).CD := by
  induction n using Nat.strongRecOn with
  | _ n ih =>
    cases n with
    | zero => exact ⟨fun f args H out h => (u00 (H := H) h).elim, fun rv f args H out h => (u00 (H := H) h).elim⟩
    | succ n =>
      have hn := ih n (Nat.lt_succ_self n)
      refine ⟨fun f args H out h => ?_, fun rv f args H out h => ual hn.1 h⟩
      have h : (match X f with | some m => m args | none => fnDen P (sem P X n).C (sem P X n).CD (sem P X n).L f args) H = some out := h
      cases hf : X f with
      | some m => rw [hf] at h; exact hX f m hf args H out h
      | none =>
        rw [hf] at h
        exact ucg hn.1 hn.2 (fun fn => ufn n (fun m hm => (ih m (by omega)).1) _ _ _ (fun m hm r f' a => u4q (EF f) (fun r g a => ui7 m r g a (by omega)) r f' a) n (Nat.le_refl n)) h
theorem ucn (hX : XSound P X) : u50 P (callW P X) := by
  intro f args H out h
  obtain ⟨n, hn⟩ := ((u9r P X f args).lim H out).mp h
  exact (ug5 hX n).1 f args H out hn
theorem noX : XSound P (fun _ => none) := fun f m h => by cases h
end Go.Proofs.YtjcffopjohkmaaaDoor.Pi
namespace Go.Proofs.YtjcffopjohkmaaaDoor.Pi
variable {P : Program} {X : ExtT}
abbrev io0 : Io := ⟨[], fun _ => none⟩
def gOf (im : Nat → Nat → Option Value) : G := ⟨io0, im, fun _ => none, some 0⟩
theorem uku {im : Nat → Nat → Option Value} {w : World} (him : ∀ b o v, im b o = some v → w.cell? ⟨b, o, none⟩ = some v) (hg : GlobOk im) : Inv (gOf im) [] w :=
  ⟨rfl, fun i j b h => by simp [gOf, G.ι] at h, him, fun b L s h => by simp [gOf] at h, fun id b y h => by simp [gOf, G.ι] at h, hg, fun b s h => by simp [gOf] at h, fun n hn => by cases hn; exact Nat.le_refl _⟩
theorem walk_law (hX : XSound P X) {f : FuncId} {args : List PV} {H' : Heap} (h : callW P X f args [] = some (.ok (.bool true) H')) {im : Nat → Nat → Option Value} {w : World} {cargs : Array Value}
    (him : ∀ b o v, im b o = some v → w.cell? ⟨b, o, none⟩ = some v) (ha : ArgsOk (gOf im) args cargs) (hg : GlobOk im) : Calls P f cargs w fun e w' => e = .returned (.bool true) ∧ RowKit.Below w.heap.size w w' := by
  obtain ⟨_, hs⟩ := ucn hX f args [] _ h
  have main : ∀ N, Md (EF f) ((gOf im).withN N) → (∀ n, N = some n → n ≤ 0) → Calls P f cargs w fun e w' => e = .returned (.bool true) ∧ RowKit.Below w.heap.size w w' := by
    intro N hm hn
    refine (hs ((gOf im).withN N) w cargs hm ((uku him hg).withN (fun id cs o c h => by simp at h) hn) ha.withN).mono ?_
    rintro e w' ⟨g', hgl, hgr, cv, rfl, hi, hr⟩
    have hv : cv = .bool true := by
      cases hr with
      | one hr => cases hr with
        | pure hr => cases hr with
          | flat hr => cases hr; rfl
    subst hv
    exact ⟨rfl, hgl.os, hgl.tape, hgl.output, hgl.size, fun k hk => (hgl.old k hk rfl (by simp [gOf, G.withN, G.ι])).2.2⟩
  cases hf : EF f with
  | false => exact main (some 0) ⟨fun h => (by rw [hf] at h; cases h), fun _ => ⟨0, rfl⟩⟩ (fun n hn => by cases hn; exact Nat.le_refl _)
  | true => exact main none ⟨fun _ => rfl, fun h => (by rw [hf] at h; cases h)⟩ (fun n hn => by cases hn)
end Go.Proofs.YtjcffopjohkmaaaDoor.Pi
namespace Go.Proofs.YtjcffopjohkmaaaDoor.Pi
theorem nrfl {γ : Sort _} {a b : γ} (h : a = b) : a = b := h
variable {α β : Type} {H : Heap} {k : IntKind} {a b n m : Int} {x y : PV} {ek : EqK}
@[simp] theorem ucc : strip (.int k n) = .int k n := nrfl rfl
@[simp] theorem u8n {t : Bool} : strip (.bool t) = .bool t := nrfl rfl
@[simp] theorem ua2 {s : ByteArray} : strip (.str s) = .str s := nrfl rfl
@[simp] theorem u72 {o z : Bool} {sz : Nat} {xs : List PV} : strip (.slice o z sz xs) = .slice false z sz xs := nrfl rfl
@[simp] theorem uca {i o : Nat} : strip (.ptr i o) = .ptr i o := nrfl rfl
@[simp] theorem u9x {cs : List PV} : strip (.agg cs) = .agg cs := nrfl rfl
@[simp] theorem u8h {cs : List PV} : strip (.elem cs) = .elem cs := nrfl rfl
@[simp] theorem uc9 : strip .nil = .nil := nrfl rfl
@[simp] theorem u47 : strip .niliface = .niliface := nrfl rfl
@[simp] theorem u69 {t : TypeId} {v : PV} : strip (.iface t v) = .iface t v := nrfl rfl
@[simp] theorem uec {f : FuncId} {u v : List PV} : strip (.fn f u v) = .fn f u v := nrfl rfl
@[simp] theorem u6r : strip .undef = .undef := nrfl rfl
@[simp] theorem ubk {vs : List PV} : strip (.tup vs) = .tup (vs.map stripC) := nrfl rfl
@[simp] theorem u8l : stripC (.int k n) = .int k n := nrfl rfl
@[simp] theorem u67 {t : Bool} : stripC (.bool t) = .bool t := nrfl rfl
@[simp] theorem u88 {s : ByteArray} : stripC (.str s) = .str s := nrfl rfl
@[simp] theorem u5h {o z : Bool} {sz : Nat} {xs : List PV} : stripC (.slice o z sz xs) = .slice false z sz xs := nrfl rfl
@[simp] theorem u8j {i o : Nat} : stripC (.ptr i o) = .ptr i o := nrfl rfl
@[simp] theorem u8m {cs : List PV} : stripC (.agg cs) = .agg cs := nrfl rfl
@[simp] theorem u83 : stripC .nil = .nil := nrfl rfl
@[simp] theorem u37 : stripC .niliface = .niliface := nrfl rfl
@[simp] theorem u5f {t : TypeId} {v : PV} : stripC (.iface t v) = .iface t v := nrfl rfl
@[simp] theorem ubz {f : FuncId} {u v : List PV} : stripC (.fn f u v) = .fn f u v := nrfl rfl
@[simp] theorem bi_add : bi .add ek (.int k a) (.int k b) = M.pure (.int k (k.wrap (a + b))) := nrfl (by cases k <;> rfl)
@[simp] theorem bi_sub : bi .sub ek (.int k a) (.int k b) = M.pure (.int k (k.wrap (a - b))) := nrfl (by cases k <;> rfl)
@[simp] theorem bi_mul : bi .mul ek (.int k a) (.int k b) = M.pure (.int k (k.wrap (a * b))) := nrfl (by cases k <;> rfl)
@[simp] theorem bi_eql : bi .eql ek (.int k a) (.int k b) = M.pure (.bool (a == b)) := nrfl (by cases k <;> rfl)
@[simp] theorem bi_neq : bi .neq ek (.int k a) (.int k b) = M.pure (.bool (a != b)) := nrfl (by cases k <;> rfl)
@[simp] theorem bi_lss : bi .lss ek (.int k a) (.int k b) = M.pure (.bool (decide (a < b))) := nrfl (by cases k <;> rfl)
@[simp] theorem bi_leq : bi .leq ek (.int k a) (.int k b) = M.pure (.bool (decide (a ≤ b))) := nrfl (by cases k <;> rfl)
@[simp] theorem bi_gtr : bi .gtr ek (.int k a) (.int k b) = M.pure (.bool (decide (a > b))) := nrfl (by cases k <;> rfl)
@[simp] theorem bi_geq : bi .geq ek (.int k a) (.int k b) = M.pure (.bool (decide (a ≥ b))) := nrfl (by cases k <;> rfl)
@[simp] theorem ui0 {s t : ByteArray} : bi .eql ek (.str s) (.str t) = M.pure (.bool (s.toList == t.toList)) := nrfl rfl
@[simp] theorem uh0 {s t : ByteArray} : bi .neq ek (.str s) (.str t) = M.pure (.bool (!(s.toList == t.toList))) := nrfl rfl
@[simp] theorem ugd {s t : Bool} : bi .eql .bool (.bool s) (.bool t) = M.pure (.bool (s == t)) := nrfl rfl
@[simp] theorem ui6 {s t : Bool} : bi .neq .bool (.bool s) (.bool t) = M.pure (.bool (!(s == t))) := nrfl rfl
@[simp] theorem un_not {t : Bool} : un .not (.bool t) = M.pure (.bool (!t)) := nrfl rfl
@[simp] theorem ub9 {o z : Bool} {sz : Nat} {xs : List PV} : lnL (.slice o z sz xs) = M.pure (.int .i64 xs.length) := nrfl rfl
@[simp] theorem uid {s : ByteArray} : lnS (.str s) = M.pure (.int .i64 s.size) := nrfl rfl
@[simp] theorem mx_int : mx (.int k a) (.int k b) = M.pure (.int k (if b > a then b else a)) := nrfl (by cases k <;> rfl)
@[simp] theorem mn_int : mn (.int k a) (.int k b) = M.pure (.int k (if b < a then b else a)) := nrfl (by cases k <;> rfl)
@[simp] theorem cv_int {o : Bool} {j : IntKind} : cv (.int k) o (.int j n) = M.pure (.int k (k.wrap n)) := nrfl rfl
@[simp] theorem ulo {v : PV} {r : List PV} : ex 0 (.tup (v :: r)) = M.pure v := nrfl rfl
@[simp] theorem ulp {u v : PV} {r : List PV} : ex 1 (.tup (u :: v :: r)) = M.pure v := nrfl rfl
@[simp] theorem ulq {t u v : PV} {r : List PV} : ex 2 (.tup (t :: u :: v :: r)) = M.pure v := nrfl rfl
end Go.Proofs.YtjcffopjohkmaaaDoor.Pi
namespace Go.Proofs.YtjcffopjohkmaaaDoor.Pi
noncomputable def kAt (c : Ctx) (L : LoopT) : List Nat → List Tmp → Code → K → List Tmp × Code × K
  | [], af, co, k => (af, co, k)
  | 0 :: p, af, .seq a b, k => kAt c L p ((rw b).1 ++ af) a fun
    | .normal, env' => bif c.rc.isNone && joinB a then L af b (keep ((rw b).1 ++ af) env') k else den c L af b env' k
    | e, env' => k e env'
  | _ :: p, af, .seq a b, k => kAt c L p af b k
  | 0 :: p, af, .cond _ a b, k => kAt c L p af a k
  | _ :: p, af, .cond _ a b, k => kAt c L p af b k
  | _ :: p, af, .block id b, k => kAt c L p af b fun
    | .exit i, env' => bif i == id then k .normal env' else k (.exit i) env'
    | e, env' => k e env'
  | _ :: p, af, .loop b, k => kAt c L p (alive af b) b fun
    | .normal, env' => L af (.loop b) (keep (alive af b) env') k
    | e, env' => k e env'
  | _, af, co, k => (af, co, k)
section
variable (P : Program) (X : ExtT)
noncomputable def kOf (f : FuncId) (p : List Nat) : List Tmp × Code × K :=
  match P.funcs[f]? with
  | some fn => match fn.body with
    | some b => kAt (ctxW P X (EF f) none (protOf fn) (resM P fn)) (loopW P X (EF f) none (protOf fn) (resM P fn)) p (u57 fn) b fun
      | .exit _, _ => M.fail
      | _, env => resM P fn env
    | none => ([], .skip, fun _ _ => M.fail)
  | none => ([], .skip, fun _ _ => M.fail)
noncomputable def ctxOf (f : FuncId) : Ctx :=
  match P.funcs[f]? with
  | some fn => ctxW P X (EF f) none (protOf fn) (resM P fn)
  | none => ctxW P X (EF f) none [] (fun _ => M.fail)
noncomputable def atP (f : FuncId) (p : List Nat) (env : Env) : M PV :=
  loopW P X (EF f) none (ctxOf P X f).prot (ctxOf P X f).res (kOf P X f p).1 (kOf P X f p).2.1 env (kOf P X f p).2.2
noncomputable def stepP (f : FuncId) (p : List Nat) (env : Env) : M PV :=
  go1 (ctxW P X (EF f) none (ctxOf P X f).prot (ctxOf P X f).res) (loopW P X (EF f) none (ctxOf P X f).prot (ctxOf P X f).res) (kOf P X f p).1 (kOf P X f p).2.1 env (kOf P X f p).2.2
theorem uj1 (f : FuncId) (p : List Nat) (env : Env) : atP P X f p env = stepP P X f p env := ujf P X _ none _ _ _ _ _ _
def mkEnv : Nat → Nat → List (Nat × PV) → Env
  | 0, _, _ => []
  | n + 1, i, (j, v) :: r => bif i == j then v :: mkEnv n (i + 1) r else .undef :: mkEnv n (i + 1) ((j, v) :: r)
  | n + 1, i, [] => .undef :: mkEnv n (i + 1) []
end
end Go.Proofs.YtjcffopjohkmaaaDoor.Pi
namespace Go.Proofs.YtjcffopjohkmaaaDoor.Pi
variable {α β : Type} {H : Heap} {k j : IntKind} {a b n m : Int} {x y : PV} {ek : EqK}
def resT (v : PV) (m : M PV) : M PV := bif isTup v then M.fail else m
def hget (H : Heap) (id : Nat) : Option Box := H[id]?
def hset (H : Heap) (id : Nat) (b : Box) : Heap := H.set id b
def hadd (H : Heap) (L : List Box) : Heap := H ++ L
def hcut (H : Heap) (n : Nat) : Heap := H.take n
abbrev hlen (H : Heap) : Nat := List.length H
def run (m : M α) (H : Heap) : Option (Out α) := m H
def bindR (r : Option (Out α)) (f : α → M β) : Option (Out β) :=
  match r with
  | none => none
  | some (.ok v H) => run (f v) H
  | some (.pan v H) => some (.pan v H)
def truncR (H : Heap) (r : Option (Out PV)) : Option (Out PV) :=
  match r with
  | none => none
  | some (.ok v H') => some (.ok v (bif v.low H.length then hcut H' H.length else H'))
  | some (.pan v H') => bif v.low H.length then some (.pan v (hcut H' H.length)) else none
noncomputable def nbR (H : Heap) (r : Option (Out α)) (f : α → M β) : Option (Out β) := nb (fun _ => r) f H
@[congr] theorem ukx {r r' : Option (Out α)} {f : α → M β} (h : r = r') : bindR r f = bindR r' f := by rw [h]
@[congr] theorem ulm {r r' : Option (Out α)} {f : α → M β} (h : r = r') : nbR H r f = nbR H r' f := by rw [h]
@[congr] theorem ukk {c c' : PV} {x y : M α} (h : c = c') : condM c x y = condM c' x y := by rw [h]
@[congr] theorem ukj {c c' : Bool} {x : M α} (h : c = c') : guardM c x = guardM c' x := by rw [h]
@[congr] theorem ulj {c c' : PV} {x : M PV} (h : c = c') : resT c x = resT c' x := by rw [h]
theorem run_bind {m : M α} {f : α → M β} : run (M.bind m f) H = bindR (run m H) f := nrfl rfl
theorem udi {f : α → M β} {v : α} {H : Heap} : bindR (some (.ok v H)) f = run (f v) H := nrfl rfl
theorem u8y {f : α → M β} : bindR none f = none := nrfl rfl
theorem ua4 {f : α → M β} {v : PV} {H : Heap} : bindR (some (.pan v H)) f = some (.pan v H) := nrfl rfl
theorem ubc {c : Prop} [Decidable c] {r r' : Option (Out α)} {f : α → M β} : bindR (if c then r else r') f = if c then bindR r f else bindR r' f := by split <;> rfl
theorem run_nb {m : M α} {f : α → M β} : run (nb m f) H = nbR H (run m H) f := nrfl rfl
theorem nbR_ok {f : α → M β} {v : α} : nbR H (some (.ok v H)) f = run (f v) H := by simp [nbR, nb, run]
theorem uhb {c : Prop} [Decidable c] {r r' : Option (Out α)} {f : α → M β} : nbR H (if c then r else r') f = if c then nbR H r f else nbR H r' f := by split <;> rfl
theorem u76 {m : M PV} : run (trunc m) H = truncR H (run m H) := nrfl rfl
theorem u80 {c : Prop} [Decidable c] {r r' : Option (Out PV)} : truncR H (if c then r else r') = if c then truncR H r else truncR H r' := by split <;> rfl
theorem u62 : truncR H none = none := nrfl rfl
theorem uak {v : PV} {H' : Heap} : truncR H (some (.ok v H')) = some (.ok v (if v.low H.length = true then hcut H' H.length else H')) := by
  show some (Out.ok v (bif v.low H.length then hcut H' H.length else H')) = _
  cases v.low H.length <;> rfl
theorem u4y {v : PV} {H' : Heap} : truncR H (some (.pan v H')) = if v.low H.length = true then some (.pan v (hcut H' H.length)) else none := by
  show (bif v.low H.length then some (Out.pan v (hcut H' H.length)) else none) = _
  cases v.low H.length <;> rfl
theorem uaf {c : Bool} {m : M α} : run (guardM c m) H = if c = true then run m H else none := by cases c <;> rfl
theorem ude {v : PV} {m : M PV} : run (resT v m) H = if isTup v = true then none else run m H := by unfold resT; cases isTup v <;> rfl
theorem udv {c : Bool} {x y : M α} : run (condM (.bool c) x y) H = if c = true then run x H else run y H := by cases c <;> rfl
theorem ugn {c : Bool} {m : M PV} : run (gd (.bool c) true m) H = if c = true then run m H else some (.ok (.tup []) H) := by cases c <;> rfl
theorem ugp {c : Bool} {m : M PV} : run (gd (.bool c) false m) H = if c = true then some (.ok (.tup []) H) else run m H := by cases c <;> rfl
theorem u8r : strip (.tup []) = .tup [] := nrfl rfl
theorem uhs {b : Bool} {m : M PV} : run (gd (.tup []) b m) H = some (.ok (.tup []) H) := nrfl rfl
theorem ue6 {c : Bool} : run (pick (.bool c) x y) H = if c = true then some (.ok (strip x) H) else some (.ok (strip y) H) := by cases c <;> rfl
theorem run_pure {v : α} : run (M.pure v) H = some (.ok v H) := nrfl rfl
theorem ugy {v : PV} : run (M.pan v : M α) H = some (.pan v H) := nrfl rfl
theorem uf8 : run (M.fail : M α) H = none := nrfl rfl
theorem run_al {cs : List PV} : run (al cs) H = if cs.all isCell = true then some (.ok (.ptr H.length 0) (hadd H [.cells cs])) else none := by unfold run al; cases cs.all isCell <;> rfl
theorem run_bx {n : Nat} {v : PV} : run (bx n v) H = if (v.cells.map stripC).length = n ∧ lowL (H.length + 1) (v.cells.map stripC) = true ∧ v.cells.all isCell = true then some (.ok (.ptr H.length 0) (hadd H [.cells (v.cells.map stripC)])) else none := by
  unfold run bx
  cases h1 : ((v.cells.map stripC).length == n) <;> cases h2 : lowL (H.length + 1) (v.cells.map stripC) <;> cases h3 : v.cells.all isCell <;> simp_all [hadd]
theorem u44 (a b : Nat) : (a == b) = decide (a = b) := by rw [Bool.eq_iff_iff]; simp
def ldB (n : Option Nat) (mv : Bool) (id o : Nat) (H : Heap) : Option Box → Option (Out PV)
  | some (.cells cs) => match n with
      | none => match cs[o]? with
        | some v => bif mv then some (.ok v (hset H id (.cells (cs.set o (stripC v))))) else some (.ok (stripC v) H)
        | none => none
      | some n => bif decide (o + n ≤ cs.length) then some (.ok (.agg (((cs.drop o).take n).map stripC)) H) else none
  | _ => none
theorem run_ld {n : Option Nat} {mv : Bool} {id o : Nat} : run (ld n mv (.ptr id o)) H = ldB n mv id o H (hget H id) := by
  unfold run ld ldB
  rfl
def stB (n : Nat) (mv : Bool) (id o : Nat) (v : PV) (H : Heap) : Option Box → Option (Out PV)
  | some (.cells cs) => bif v.cells.length == n && (decide (o + n ≤ cs.length) && (lowL (id + 1) v.cells && v.cells.all isCell)) then
        some (.ok .undef (hset H id (.cells (fillAt o (bif mv then v.cells else v.cells.map stripC) cs))))
      else none
  | _ => none
theorem run_st {n : Nat} {mv : Bool} {id o : Nat} {v : PV} : run (st n mv (.ptr id o) v) H = stB n mv id o v H (hget H id) := by
  unfold run st stB
  rfl
theorem uea {n : Nat} {mv : Bool} {id o : Nat} {cs : List PV} : ldB (some n) mv id o H (some (.cells cs)) = if o + n ≤ cs.length then some (.ok (.agg (((cs.drop o).take n).map stripC)) H) else none := by
  show (bif decide (o + n ≤ cs.length) then some (Out.ok (PV.agg (((cs.drop o).take n).map stripC)) H) else none) = _
  by_cases h : o + n ≤ cs.length <;> simp [h]
def nth : List α → Nat → Option α
  | [], _ => none
  | v :: _, 0 => some v
  | _ :: r, n + 1 => nth r n
theorem ue9 {v : α} {r : List α} : nth (v :: r) 0 = some v := nrfl rfl
theorem ueh {v : α} {r : List α} {n : Nat} : nth (v :: r) (n + 1) = nth r n := nrfl rfl
theorem nth_is : ∀ (l : List α) (n : Nat), l[n]? = nth l n
  | [], _ => rfl
  | _ :: _, 0 => rfl
  | _ :: r, n + 1 => nth_is r n
def ldTR (H : Heap) (id : Nat) (cs : List PV) (o : Nat) : Option PV → Option (Out PV)
  | some v => some (.ok v (hset H id (.cells (cs.set o (stripC v)))))
  | none => none
def ldFR (H : Heap) : Option PV → Option (Out PV)
  | some v => some (.ok (stripC v) H)
  | none => none
theorem u9w {id : Nat} {cs : List PV} {o : Nat} {v : PV} : ldTR H id cs o (some v) = some (.ok v (hset H id (.cells (cs.set o (stripC v))))) := nrfl rfl
theorem ua0 {v : PV} : ldFR H (some v) = some (.ok (stripC v) H) := nrfl rfl
theorem ldB_t {id o : Nat} {cs : List PV} : ldB none true id o H (some (.cells cs)) = ldTR H id cs o (nth cs o) := by
  rw [← nth_is]; rfl
theorem ldB_f {id o : Nat} {cs : List PV} : ldB none false id o H (some (.cells cs)) = ldFR H (nth cs o) := by
  rw [← nth_is]; rfl
theorem stB_is {n : Nat} {mv : Bool} {id o : Nat} {v : PV} {cs : List PV} :
    stB n mv id o v H (some (.cells cs)) = if v.cells.length = n ∧ o + n ≤ cs.length ∧ lowL (id + 1) v.cells = true ∧ v.cells.all isCell = true then some (.ok .undef (hset H id (.cells (fillAt o (if mv = true then v.cells else v.cells.map stripC) cs)))) else none := by
  show (bif v.cells.length == n && (decide (o + n ≤ cs.length) && (lowL (id + 1) v.cells && v.cells.all isCell)) then some (Out.ok PV.undef (hset H id (.cells (fillAt o (bif mv then v.cells else v.cells.map stripC) cs)))) else none) = _
  cases hb : v.cells.all isCell <;> cases hc : lowL (id + 1) v.cells <;> by_cases h1 : v.cells.length = n <;> by_cases h2 : o + n ≤ cs.length <;> cases mv <;> simp [h1, h2, u44 (v.cells.length) n]
theorem udz {mv : Bool} {cs : List PV} {c : PV} : run (ld none mv (.elem (c :: cs))) H = some (.ok c H) := nrfl rfl
theorem uel {mv : Bool} {n : Nat} {cs : List PV} : run (ld (some n) mv (.elem cs)) H = if n ≤ cs.length then some (.ok (.agg (cs.take n)) H) else none := by
  show (bif decide (n ≤ cs.length) then M.pure (PV.agg (cs.take n)) else M.fail) H = _
  by_cases h : n ≤ cs.length <;> simp [h, M.pure, M.fail]
theorem u56 {L : List Box} (k : Nat) : hget (hadd H L) (H.length + k) = nth L k := by unfold hget hadd; rw [List.getElem?_append_right (Nat.le_add_right _ _), Nat.add_sub_cancel_left, nth_is]
theorem u5w {L : List Box} : hget (hadd H L) H.length = nth L 0 := u56 0
theorem u3g {L : List Box} {i : Nat} (h : i < H.length) : hget (hadd H L) i = hget H i := List.getElem?_append_left h
theorem u9e {L : List Box} {x : Box} (k : Nat) : hset (hadd H L) (H.length + k) x = hadd H (L.set k x) := by unfold hset hadd; rw [List.set_append_right _ _ (Nat.le_add_right _ _), Nat.add_sub_cancel_left]
theorem ueo {L : List Box} {x : Box} : hset (hadd H L) H.length x = hadd H (L.set 0 x) := u9e 0
theorem u9s {L : List Box} {i : Nat} {x : Box} (h : i < H.length) : hset (hadd H L) i x = hadd (hset H i x) L := List.set_append_left _ _ h
theorem u7c {i : Nat} {x : Box} (h : i < H.length) : hget (hset H i x) i = some x := by unfold hget hset; rw [List.getElem?_set_self h]
theorem u16 {i k : Nat} {x : Box} (h : i ≠ k) : hget (hset H i x) k = hget H k := List.getElem?_set_ne h
theorem set_set {i : Nat} {x y : Box} : hset (hset H i x) i y = hset H i y := List.set_set _
theorem u7a {L K : List Box} : hadd (hadd H L) K = hadd H (L ++ K) := List.append_assoc _ _ _
theorem uct {A L : List Box} {n : Nat} (h : n = A.length) : hcut (hadd A L) n = A := by subst h; simp [hcut, hadd]
theorem ud1 {A : List Box} {n : Nat} (h : n = A.length) : hcut A n = A := by subst h; simp [hcut]
theorem cut0 : hcut H H.length = H := ud1 rfl
theorem cut1 {i : Nat} {x : Box} : hcut (hset H i x) H.length = hset H i x := ud1 (by unfold hset; simp)
theorem cut2 {i j : Nat} {x y : Box} : hcut (hset (hset H i x) j y) H.length = hset (hset H i x) j y := ud1 (by unfold hset; simp)
theorem cutA0 {L : List Box} : hcut (hadd H L) H.length = H := uct rfl
theorem cutA1 {L : List Box} {i : Nat} {x : Box} : hcut (hadd (hset H i x) L) H.length = hset H i x := uct (by unfold hset; simp)
theorem cutA2 {L : List Box} {i j : Nat} {x y : Box} : hcut (hadd (hset (hset H i x) j y) L) H.length = hset (hset H i x) j y := uct (by unfold hset; simp)
theorem u4d {L : List Box} : List.length (hadd H L) = H.length + L.length := List.length_append
theorem u2g {i : Nat} {x : Box} : List.length (hset H i x) = H.length := List.length_set
theorem u4n {L : List Box} {i : Nat} {y : Box} (k : Nat) : hget (hadd (hset H i y) L) (H.length + k) = nth L k := by
  have := u56 (H := hset H i y) (L := L) k
  rwa [u2g] at this
theorem u4v {L : List Box} {i : Nat} {y : Box} : hget (hadd (hset H i y) L) H.length = nth L 0 := u4n 0
theorem u5y {L : List Box} {i : Nat} {x y : Box} (k : Nat) : hset (hadd (hset H i y) L) (H.length + k) x = hadd (hset H i y) (L.set k x) := by
  have := u9e (H := hset H i y) (L := L) (x := x) k
  rwa [u2g] at this
theorem u6f {L : List Box} {i : Nat} {x y : Box} : hset (hadd (hset H i y) L) H.length x = hadd (hset H i y) (L.set 0 x) := u5y 0
theorem u5t {L : List Box} {i j : Nat} {y : Box} (h : i < H.length) : hget (hadd (hset H j y) L) i = hget (hset H j y) i := u3g (by rw [u2g]; exact h)
theorem u9d {L : List Box} {i j : Nat} {x y : Box} (h : i < H.length) : hset (hadd (hset H j y) L) i x = hadd (hset (hset H j y) i x) L := u9s (by rw [u2g]; exact h)
theorem get_lt {i : Nat} {x : Box} (h : hget H i = some x) : i < H.length := (List.getElem?_eq_some_iff.mp h).1
theorem ujw {i : Nat} {x : Box} (h : hget H i = some x) : hset H i x = H := by
  obtain ⟨h1, h2⟩ := List.getElem?_eq_some_iff.mp h
  unfold hset; subst h2; exact List.set_getElem_self h1
theorem w_i64 (h : -9223372036854775808 ≤ n ∧ n ≤ 9223372036854775807) : IntKind.i64.wrap n = n := by rw [IntKind.wrap_i64]; omega
theorem w_u64 (h : 0 ≤ n ∧ n ≤ 18446744073709551615) : IntKind.u64.wrap n = n := by simp only [IntKind.wrap, IntKind.signed, IntKind.bits]; simp; omega
theorem w_u8 (h : 0 ≤ n ∧ n ≤ 255) : IntKind.u8.wrap n = n := by rw [IntKind.wrap_u8]; omega
theorem w_u32 (h : 0 ≤ n ∧ n ≤ 4294967295) : IntKind.u32.wrap n = n := by rw [IntKind.wrap_u32]; omega
theorem w_i32 (h : -2147483648 ≤ n ∧ n ≤ 2147483647) : IntKind.i32.wrap n = n := by rw [IntKind.wrap_i32]; omega
theorem ugm (h : b ≠ 0) : bi .quo ek (.int k a) (.int k b) = M.pure (.int k (k.wrap (a.tdiv b))) := by
  have h' : (b == 0) = false := by simpa using h
  cases k <;> simp [bi, intOp, h']
theorem ug3 (h : b ≠ 0) : bi .rem ek (.int k a) (.int k b) = M.pure (.int k (a.tmod b)) := by
  have h' : (b == 0) = false := by simpa using h
  cases k <;> simp [bi, intOp, h']
def iaR (H : Heap) : Option PV → Option (Out PV)
  | some x => some (.ok (.elem x.cells) H)
  | none => none
theorem udp {x : PV} : iaR H (some x) = some (.ok (.elem x.cells) H) := nrfl rfl
theorem uh3 {o z : Bool} {sz : Nat} {xs : List PV} (h0 : 0 ≤ n) : run (iaS sz (.slice o z sz xs) (.int k n)) H = iaR H xs[n.toNat]? := by
  unfold iaS iaR run
  have h' : decide (0 ≤ n) = true := by simpa using h0
  simp only [h', beq_self_eq_true, Bool.and_self, cond_true, u0p, M.fail, M.pure]
  split <;> rename_i h <;> simp only [h] <;> rfl
theorem run_fa {off id o : Nat} : fa off (.ptr id o) = M.pure (.ptr id (o + off)) := nrfl rfl
theorem ug0 {off : Nat} {cs : List PV} : fa off (.elem cs) = M.pure (.elem (cs.drop off)) := nrfl rfl
theorem uf9 {P : Program} {C : CallT} {f : FuncId} {u v args : List PV} : callV P C (.fn f u v) args = C f (u ++ args ++ v) := nrfl rfl
theorem nc_ptr {P : Program} {i o : Nat} : nc P (.ptr i o) = M.pure (.ptr i o) := nrfl rfl
theorem ugh {P : Program} {cs : List PV} : nc P (.elem cs) = M.pure (.elem cs) := nrfl rfl
theorem nc_nil {P : Program} : nc P .nil = M.pan (nilDeref P) := nrfl rfl
theorem run_mi {t : TypeId} {v : PV} : run (mi t v) H = if isVal v = true then some (.ok (.iface t (stripC v)) H) else none := by
  unfold run mi
  cases isVal v <;> rfl
theorem run_pn {t : TypeId} {v : PV} : pn (.iface t v) = M.pan (.iface t v) := nrfl rfl
theorem uhd {o : Bool} : cv (.int k) o (.int j n) = M.pure (.int k (k.wrap n)) := nrfl rfl
theorem uga {v : PV} {r : List PV} : ex 0 (.tup (v :: r)) = M.pure v := nrfl rfl
theorem uhr {u v : PV} {r : List PV} : ex 1 (.tup (u :: v :: r)) = M.pure v := nrfl rfl
theorem uhm {u v x : PV} {r : List PV} : ex 2 (.tup (u :: v :: x :: r)) = M.pure x := nrfl rfl
theorem uf4 {v : PV} {r : List PV} : tupDrop 0 (.tup (v :: r)) = .tup (stripC v :: r) := nrfl rfl
theorem ueq {u v : PV} {r : List PV} : tupDrop 1 (.tup (u :: v :: r)) = .tup (u :: stripC v :: r) := nrfl rfl
theorem udg {u v x : PV} {r : List PV} : tupDrop 2 (.tup (u :: v :: x :: r)) = .tup (u :: v :: stripC x :: r) := nrfl rfl
section
variable {c d : Bool} {s : ByteArray} {i o : Nat} {cs ds : List PV} {N : Nat}
theorem ub7 : isTup (.int k n) = false := nrfl rfl
theorem u7w : isCell (.int k n) = true := nrfl rfl
theorem uac : isVal (.int k n) = true := nrfl rfl
theorem ua3 : isPtr (.int k n) = false := nrfl rfl
theorem uaq : PV.cells (.int k n) = [(.int k n)] := nrfl rfl
theorem ucz : PV.low N (.int k n) = true := by simp only [PV.low]
theorem u8z : isTup (.bool c) = false := nrfl rfl
theorem u7n : isCell (.bool c) = true := nrfl rfl
theorem u8g : isVal (.bool c) = true := nrfl rfl
theorem u82 : isPtr (.bool c) = false := nrfl rfl
theorem u7x : PV.cells (.bool c) = [(.bool c)] := nrfl rfl
theorem uew : PV.low N (.bool c) = true := by simp only [PV.low]
theorem ub3 : isTup (.str s) = false := nrfl rfl
theorem u89 : isCell (.str s) = true := nrfl rfl
theorem uab : isVal (.str s) = true := nrfl rfl
theorem ubv : isPtr (.str s) = false := nrfl rfl
theorem ubl : PV.cells (.str s) = [(.str s)] := nrfl rfl
theorem ugu : PV.low N (.str s) = true := by simp only [PV.low]
theorem uau : isTup .nil = false := nrfl rfl
theorem u8b : isCell .nil = true := nrfl rfl
theorem uaj : isVal .nil = true := nrfl rfl
theorem ubf : isPtr .nil = false := nrfl rfl
theorem ubn : PV.cells .nil = [.nil] := nrfl rfl
theorem ug7 : PV.low N .nil = true := by simp only [PV.low]
theorem uai : isTup (.ptr i o) = false := nrfl rfl
theorem u85 : isCell (.ptr i o) = true := nrfl rfl
theorem uby : isVal (.ptr i o) = true := nrfl rfl
theorem ubp : isPtr (.ptr i o) = true := nrfl rfl
theorem ube : PV.cells (.ptr i o) = [(.ptr i o)] := nrfl rfl
theorem ugf : PV.low N (.ptr i o) = decide (i < N) := by simp only [PV.low]
theorem u8o : isTup (.elem cs) = false := nrfl rfl
theorem u7e : isCell (.elem cs) = true := nrfl rfl
theorem u8f : isVal (.elem cs) = true := nrfl rfl
theorem u84 : isPtr (.elem cs) = false := nrfl rfl
theorem u7u : PV.cells (.elem cs) = [(.elem cs)] := nrfl rfl
theorem uf0 : PV.low N (.elem cs) = true := by simp only [PV.low]
theorem u6w : isTup (.slice c d i cs) = false := nrfl rfl
theorem u5o : isCell (.slice c d i cs) = true := nrfl rfl
theorem u7j : isVal (.slice c d i cs) = true := nrfl rfl
theorem u6n : isPtr (.slice c d i cs) = false := nrfl rfl
theorem u6z : PV.cells (.slice c d i cs) = [(.slice c d i cs)] := nrfl rfl
theorem ubq : PV.low N (.slice c d i cs) = true := by simp only [PV.low]
theorem uex : isTup (.fn i cs ds) = false := nrfl rfl
theorem uah : isCell (.fn i cs ds) = true := nrfl rfl
theorem uem : isVal (.fn i cs ds) = true := nrfl rfl
theorem ue5 : isPtr (.fn i cs ds) = false := nrfl rfl
theorem ue0 : PV.cells (.fn i cs ds) = [(.fn i cs ds)] := nrfl rfl
theorem low_fn : PV.low N (.fn i cs ds) = (lowL N cs && lowL N ds) := by simp only [PV.low]
theorem u6p : isTup .nilfn = false := nrfl rfl
theorem u5d : isCell .nilfn = true := nrfl rfl
theorem u68 : isVal .nilfn = true := nrfl rfl
theorem u6l : isPtr .nilfn = false := nrfl rfl
theorem u7g : PV.cells .nilfn = [.nilfn] := nrfl rfl
theorem uc5 : PV.low N .nilfn = true := by simp only [PV.low]
theorem u79 : isTup (.iface i x) = false := nrfl rfl
theorem u5g : isCell (.iface i x) = true := nrfl rfl
theorem u7k : isVal (.iface i x) = true := nrfl rfl
theorem u6y : isPtr (.iface i x) = false := nrfl rfl
theorem u7b : PV.cells (.iface i x) = [(.iface i x)] := nrfl rfl
theorem u75 : PV.low N (.iface i x) = x.low N := by simp only [PV.low]
theorem u46 : isTup .niliface = false := nrfl rfl
theorem u3o : isCell .niliface = true := nrfl rfl
theorem u43 : isVal .niliface = true := nrfl rfl
theorem u48 : isPtr .niliface = false := nrfl rfl
theorem u45 : PV.cells .niliface = [.niliface] := nrfl rfl
theorem u58 : PV.low N .niliface = true := by simp only [PV.low]
theorem uap : isTup (.agg cs) = false := nrfl rfl
theorem u90 : isCell (.agg cs) = false := nrfl rfl
theorem uba : isVal (.agg cs) = true := nrfl rfl
theorem ubw : isPtr (.agg cs) = false := nrfl rfl
theorem ubj : PV.cells (.agg cs) = cs := nrfl rfl
theorem ucs : PV.low N (.agg cs) = lowL N cs := by simp only [PV.low]
theorem ubi : isTup (.tup cs) = true := nrfl rfl
theorem u8s : isCell (.tup cs) = false := nrfl rfl
theorem ubd : isVal (.tup cs) = false := nrfl rfl
theorem ubt : isPtr (.tup cs) = false := nrfl rfl
theorem uas : PV.cells (.tup cs) = [(.tup cs)] := nrfl rfl
theorem uin : PV.low N (.tup cs) = lowL N cs := by simp only [PV.low]
theorem u7o : isTup .undef = false := nrfl rfl
theorem u5m : isCell .undef = false := nrfl rfl
theorem u6q : isVal .undef = false := nrfl rfl
theorem u6v : isPtr .undef = false := nrfl rfl
theorem u63 : PV.cells .undef = [.undef] := nrfl rfl
theorem uc4 : PV.low N .undef = true := by simp only [PV.low]
end
theorem u9f {n : Nat} : lowL n [] = true := by simp only [lowL]
theorem u78 {n : Nat} {v : PV} {r : List PV} : lowL n (v :: r) = (v.low n && lowL n r) := by simp only [lowL]
def bdR (H : Heap) : Option (List PV) → Option (Out PV)
  | some cs => some (.ok (.agg cs) H)
  | none => none
theorem udm {cs : List PV} : bdR H (some cs) = some (.ok (.agg cs) H) := nrfl rfl
theorem run_bd {zero : List PV} {parts : List (Nat × Nat × PV)} : run (bd zero parts) H = bdR H (u1i parts zero) := by
  unfold run bd bdR
  cases u1i parts zero <;> rfl
theorem u7f {cs : List PV} : u1i [] cs = some cs := nrfl rfl
theorem u5k {off size : Nat} {v : PV} {r : List (Nat × Nat × PV)} {cs : List PV} : u1i ((off, size, v) :: r) cs = if v.cells.length = size ∧ off + size ≤ cs.length ∧ v.cells.all isCell = true then u1i r (fillAt off (v.cells.map stripC) cs) else none := by
  show (bif v.cells.length == size && (decide (off + size ≤ cs.length) && v.cells.all isCell) then u1i r (fillAt off (v.cells.map stripC) cs) else none) = _
  cases hb : v.cells.all isCell <;> by_cases h1 : v.cells.length = size <;> by_cases h2 : off + size ≤ cs.length <;> simp [h1, h2, hb, u44 (v.cells.length) size]
theorem ubu {off : Nat} {vs cs : List PV} : fillAt off vs cs = cs.take off ++ vs ++ cs.drop (off + vs.length) := nrfl rfl
def bsR (own : Bool) (a : Option Nat) (vs : List PV) (H : Heap) : Option (Out PV) := if vs.all (u0a a) = true then some (.ok (.slice own false (a.getD 1) vs) H) else none
theorem run_bs {own : Bool} {a : Option Nat} {vs : List PV} : run (bs own a vs) H = bsR own a (vs.map stripC) H := by
  unfold run bs bsR
  cases ((vs.map stripC).all (u0a a)) <;> rfl
def noPanR : Option (Out PV) → Option (Out PV)
  | some (.ok v H) => some (.ok v H)
  | _ => none
theorem u6t {m : M PV} : run (noPan m) H = noPanR (run m H) := by
  unfold run noPan noPanR
  cases m H with
  | none => rfl
  | some q => cases q <;> rfl
theorem uc3 {v : PV} {H : Heap} : noPanR (some (.ok v H)) = some (.ok v H) := nrfl rfl
theorem u7z {v : PV} {H : Heap} : noPanR (some (.pan v H)) = none := nrfl rfl
theorem u74 : noPanR none = none := nrfl rfl
theorem u87 {c : Prop} [Decidable c] {r r' : Option (Out PV)} : noPanR (if c then r else r') = if c then noPanR r else noPanR r' := by split <;> rfl
noncomputable def chkR (r r' : Option (Out α)) (x : M β) (H : Heap) : Option (Out β) := run (chk (fun _ => r) (fun _ => r') x) H
@[congr] theorem ull {r r' s s' : Option (Out α)} {x : M β} (h : r = s) (h' : r' = s') : chkR r r' x H = chkR s s' x H := by rw [h, h']
theorem ugb {m m' : M α} {x : M β} : run (chk m m' x) H = chkR (run m H) (run m' H) x H := nrfl rfl
theorem ud3 {a : α} {K : Heap} {x : M β} : chkR (some (.ok a K)) (some (.ok a K)) x H = run x H := by
  simp [chkR, run, chk]
theorem ui3 {i o : Nat} : tld (.ptr i o) = .ld i := nrfl rfl
theorem uh8 {i o : Nat} : tst (.ptr i o) = .st i := nrfl rfl
theorem uf2 {cs : List PV} : tld (.elem cs) = .no := nrfl rfl
theorem ueb {x : Touch} : clash .no x = false := nrfl rfl
theorem uan {y : Touch} : clash y .no = false := by cases y <;> rfl
theorem u66 {i j : Nat} : clash (.ld i) (.ld j) = false := nrfl rfl
theorem u6g {i j : Nat} : clash (.ld j) (.st i) = (i == j) := nrfl rfl
theorem u6d {i j : Nat} : clash (.st j) (.ld i) = (i == j) := nrfl rfl
theorem u6u {i j : Nat} : clash (.st j) (.st i) = (i == j) := nrfl rfl
theorem u59 {i : Nat} : clash .any (.ld i) = false := nrfl rfl
theorem u5a {i : Nat} : clash (.ld i) .any = false := nrfl rfl
theorem u4h : clash .any .any = false := nrfl rfl
def defR (CD : Option PV → CallT) (f : FuncId) (args : List PV) (res : M PV) : Option (Out PV) → Option (Out PV)
  | none => none
  | some (.ok _ H) => bindR (run (CD none f args) H) (fun _ => res)
  | some (.pan v H) => bindR (run (CD (some v) f args) H) (fun r => match r with | .tup [] => res | _ => M.fail)
theorem uaw {CD : Option PV → CallT} {f : FuncId} {u v args : List PV} {rest res : M PV} : run (deferM CD (.fn f u v) args rest res) H = defR CD f (u ++ args ++ v) res (run rest H) := by
  unfold run deferM defR
  dsimp only
  cases rest H with
  | none => rfl
  | some q => cases q <;> rfl
@[congr] theorem uli {CD : Option PV → CallT} {f : FuncId} {args : List PV} {res : M PV} {r r' : Option (Out PV)} (h : r = r') : defR CD f args res r = defR CD f args res r' := by rw [h]
theorem ua7 {CD : Option PV → CallT} {f : FuncId} {args : List PV} {res : M PV} : defR CD f args res none = none := nrfl rfl
theorem uit {CD : Option PV → CallT} {f : FuncId} {args : List PV} {res : M PV} {v : PV} : defR CD f args res (some (.ok v H)) = bindR (run (CD none f args) H) (fun _ => res) := nrfl rfl
theorem uey {CD : Option PV → CallT} {f : FuncId} {args : List PV} {res : M PV} {v : PV} : defR CD f args res (some (.pan v H)) = bindR (run (CD (some v) f args) H) (fun r => match r with | .tup [] => res | _ => M.fail) := nrfl rfl
theorem uds {CD : Option PV → CallT} {f : FuncId} {args : List PV} {res : M PV} {c : Prop} [Decidable c] {r r' : Option (Out PV)} : defR CD f args res (if c then r else r') = if c then defR CD f args res r else defR CD f args res r' := by split <;> rfl
end Go.Proofs.YtjcffopjohkmaaaDoor.Pi
namespace Go.Proofs.YtjcffopjohkmaaaDoor.Pi
def byt (c : UInt8) : PV := .int .u8 c.toNat
abbrev bytes (b : List UInt8) : List PV := b.map byt
abbrev BS (z : Bool) (b : List UInt8) : PV := .slice false z 1 (bytes b)
inductive Rs (α : Type) where
  | ok (v : α) (p : Nat)
  | err (p e : Nat)
end Go.Proofs.YtjcffopjohkmaaaDoor.Pi
namespace Go.Proofs.YtjcffopjohkmaaaDoor.Pi
def okS (h c : Nat) : Prop := c < 128 ∧ (c / 2 ^ (h - 1) = 0 ∨ c / 2 ^ (h - 1) = 2 ^ (8 - h) - 1)
instance (h c : Nat) : Decidable (okS h c) := by unfold okS; infer_instance
end Go.Proofs.YtjcffopjohkmaaaDoor.Pi
