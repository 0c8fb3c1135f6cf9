/- What the law rests on, part 3 of 5: a reading of the program's code over told data, and what it comes to. -/
import Derived.Test.YthnmienjiangkaaGreatDoorPiR1
set_option linter.unusedVariables false
set_option linter.unusedSimpArgs false
set_option maxRecDepth 100000
namespace Go.Proofs.YthnmienjiangkaaGreatDoor.Pi
variable {P : Program} {g : G} {L L' : Owner} {w w' : World} {H : Heap} {x : Nat} {env : Env}
def slotV (env : Env) : PV := env.getD (env.length - 1) .undef
theorem ModeOk.mono {rv : Option PV} {u : FrameMode} (h : ModeOk g rv u) {g' : G} (hι : ∀ (i b : Nat), g.ι[i]? = some b → g'.ι[i]? = some b) (him : ∀ b o v, g.im b o = some v → g'.im b o = some v) : ModeOk g' rv u := by
  cases rv with
  | none => exact h
  | some p => obtain ⟨cv, h1, h2⟩ := h; exact ⟨cv, h1, h2.mono hι him⟩
theorem ui3 {tm : Array Value} (hT : TOk 1 g env tm) : slotV env = .undef ∨ slotV env = .tup [] := by
  have hl := hT.len
  have h1 : env.length - 1 < env.length := by omega
  unfold slotV
  rw [List.getD_eq_getElem?_getD, List.getElem?_eq_getElem h1]
  exact hT.slot (env.length - 1) _ (by omega) (List.getElem?_eq_getElem h1)
theorem ueo {tm : Array Value} (hT : TOk 1 g env tm) (s : Option (Tmp × Option Nat)) : slotV (giveUp env s) = slotV env := by
  have hs := ui3 hT
  unfold slotV at hs ⊢
  rw [u5y]
  unfold giveUp
  split
  · rw [u6e]
    split
    · rename_i hh
      rw [hh.1]
      exact ucs hs
    · rfl
  · rw [u6e]
    split
    · rename_i hh
      rw [hh.1]
      exact u9y _ hs
    · rfl
  · rfl
theorem uhh {d : Nat} {v : PV} (hd : d + 1 < env.length) : slotV (env.set d v) = slotV env := by
  unfold slotV
  rw [List.length_set, u6e, if_neg (by omega)]
theorem ue0 {pr : List Tmp} {d : Tmp} (h : okDst true pr env (some d) = true) : d + 1 < env.length := by
  unfold okDst at h
  simp only [Bool.and_eq_true, Bool.or_eq_true, Bool.not_eq_true', decide_eq_true_eq] at h
  rcases h.2 with h1 | h1
  · cases h1
  · exact h1
theorem utn {rc : Option (Option PV)} {pr : List Tmp} {ops : Array Oper} {o : Oper} {v : PV} {tm : Array Value} (hT : TOk 1 g env tm) (hr : u0m o = false) (hd : okDst true pr env o.dst = true) : slotV (put rc ops env o v) = slotV env := by
  have htook : took rc o (giveUp env (given ops o)) = giveUp env (given ops o) := by
    unfold took
    simp [hr]
  unfold Pi.put
  rw [htook]
  cases hdst : o.dst with
  | none => exact ueo hT _
  | some d =>
    rw [hdst] at hd
    have h1 := ue0 hd
    show slotV ((giveUp env (given ops o)).set d v) = _
    rw [uhh (by rw [u5y]; exact h1)]
    exact ueo hT _
structure StaD (c : Ctx) (rv : Option PV) (u : FrameMode) (g : G) (H : Heap) (env : Env) (a : Act) (w : World) (m : FrameMode) : Prop where
  sta : Sta c g H env a w []
  mode : ModeOk g rv u
  now : m = u5a (slotV env) u
  defs : a.defers = []
theorem uh2 (a : Act) (d : Option Tmp) (v : Value) : (a.put d v).defers = a.defers := by cases d <;> rfl
theorem uvo {c : Ctx} {a : Act} (h : a.defers = []) : DefsOk c g env [] a.defers := by rw [h]; exact True.intro
theorem TOk.took {tm : Array Value} (h : TOk 1 g env tm) : TOk 1 g (env.set (env.length - 1) (.tup [])) tm := by
  have hl := h.len
  refine ⟨h.one, by simp [hl], fun t v p hv hp => ?_, fun t p ht hp => ?_⟩
  · have h1 := (Array.getElem?_eq_some_iff.mp hv).1
    rw [List.getElem?_set_ne (by omega)] at hp
    exact h.val t v p hv hp
  · by_cases e : env.length - 1 = t
    · subst e
      rw [List.getElem?_set_self (by omega)] at hp
      cases hp
      exact .inr rfl
    · rw [List.getElem?_set_ne e] at hp
      exact h.slot t p ht hp
theorem utm {c : Ctx} {rv : Option PV} {u m : FrameMode} {a : Act} {ops : Array Oper} {o : Oper} {v : PV} {cv : Value} (hrc : c.rc = some rv) (hS : StaD c rv u g H env a w m) (hrec : u0m o = true) (hgv : given ops o = none)
    (hd : okDst true c.prot env o.dst = true) (hv : ∀ L, RepT g L v cv) : Sta c g H (put c.rc ops env o v) (a.put o.dst cv) w [] ∧ slotV (put c.rc ops env o v) = .tup [] := by
  have hT : TOk 1 g env a.tmps := by
    have := hS.sta.tok
    rw [hrc] at this
    exact this
  have hl := hT.len
  have htook : took c.rc o (giveUp env (given ops o)) = env.set (env.length - 1) (.tup []) := by
    rw [hgv, hrc]
    unfold took giveUp
    simp [hrec]
  have hs : slotV (env.set (env.length - 1) (.tup [])) = .tup [] := by
    unfold slotV
    rw [List.length_set, u6e, if_pos ⟨rfl, by omega⟩]
  have hx : xOf c.rc = 1 := by rw [hrc]; rfl
  refine ⟨⟨hS.sta.inv, ?_, by rw [uh2]; exact uvo (by rw [hS.defs])⟩, ?_⟩
  · unfold Pi.put
    rw [htook, hx]
    cases hdst : o.dst with
    | none => exact hT.took
    | some d =>
      rw [hdst] at hd
      exact hT.took.put (.inr (by rw [List.length_set]; exact ue0 hd)) (hv _)
  · unfold Pi.put
    rw [htook]
    cases hdst : o.dst with
    | none => exact hs
    | some d =>
      rw [hdst] at hd
      show slotV ((env.set (env.length - 1) (.tup [])).set d v) = _
      rw [uhh (by rw [List.length_set]; exact ue0 hd)]
      exact hs
theorem ud3 (v : PV) : u5a v .returning = .returning := by
  unfold u5a
  split <;> first | rfl | (rename_i h; cases h) | rfl
def LeafD (c : Ctx) (rv : Option PV) (u : FrameMode) (c0 : Frame) (cs0 : List Frame) (g0 : G) (w0 : World) (out : Out PV) (k : Env → M PV) (Q : Act → List Frame → World → Prop) : Prop :=
  ∀ env a w g H m, Glob g0 w0 g w → StaD c rv u g H env a w m → k env H = some out → Q a ({ c0 with mode := m } :: cs0) w
variable {c : Ctx} {rv : Option PV} {u : FrameMode} {c0 : Frame} {cs0 : List Frame} {g0 : G} {w0 : World} {v0 : PV} {H0 : Heap}
theorem ubc (hC : CSound c.P c.C) (hrc : c.rc = some rv) {ops : Array Oper} {k : Env → M PV} {Q : Exit → Act → List Frame → World → Prop} (hleaf : LeafD c rv u c0 cs0 g0 w0 (.ok v0 H0) k (Q .normal)) :
    ∀ (l : List Oper) (i : Nat) (env : Env) (a : Act) (w : World) (g : G) (H : Heap) (m : FrameMode), (∀ j, l[j]? = ops[i + j]?) → (∀ o ∈ l, uag o = true) → Glob g0 w0 g w → StaD c rv u g H env a w m →
      dOps c ops l env k H = some (.ok v0 H0) → wpOpsS c.P ops Q (List.range' i l.length) a ({ c0 with mode := m } :: cs0) w
  | [], i, env, a, w, g, H, m, hl, hs, hgl, hS, h => hleaf env a w g H m hgl hS h
  | o :: r, i, env, a, w, g, H, m, hl, hs, hgl, hS, h => by
    have hr : ∀ j, r[j]? = ops[i + 1 + j]? := fun j => by
      have := hl (j + 1)
      rw [List.getElem?_cons_succ] at this
      rw [this]
      congr 1
      omega
    have ho : ops[i]? = some o := by
      have := hl 0
      simpa using this.symm
    have hso := hs o List.mem_cons_self
    have hsr : ∀ o ∈ r, uag o = true := fun q hq => hs q (List.mem_cons_of_mem _ hq)
    rw [List.length_cons, ufr]
    simp only [wpOpsS, ho]
    rw [ua1] at h
    obtain ⟨hok, h⟩ := u0c h
    have hok' : okDst true c.prot env o.dst = true := by
      rw [hrc] at hok
      exact hok
    have hT : TOk 1 g env a.tmps := by
      have := hS.sta.tok
      rw [hrc] at this
      exact this
    have h : M.bind (gval c.P c.C c.rc ops env o) (fun v => dOps c ops r (put c.rc ops env o v) k) H = some (.ok v0 H0) := by
      obtain ⟨dst, op, ty, pos, after, guard⟩ := o
      cases op <;> first | exact h | (simp [uag] at hso)
    unfold M.bind at h
    cases hg : gval c.P c.C c.rc ops env o H with
    | none => rw [hg] at h; simp at h
    | some o1 =>
      rw [hg] at h
      cases o1 with
      | pan v H1 => simp at h
      | ok v H1 =>
        have hnx : dOps c ops r (put c.rc ops env o v) k H1 = some (.ok v0 H0) := h
        clear h
        cases hrec : u0m o with
        | false =>
          have hst := ulf (Q := fun e a w => Q e a ({ c0 with mode := m } :: cs0) w) (next := fun a w => wpOpsS c.P ops Q (List.range' (i + 1) r.length) a ({ c0 with mode := m } :: cs0) w)
            hC (.inr hrec) hS.sta hok hg (fun v' H1' g' a' w' he hgl' hS' => by
              cases he
              have hda : a'.defers = [] := by
                have := hS'.defs
                cases hd : a'.defers with
                | nil => rfl
                | cons x y => rw [hd] at this; exact this.elim
              refine ubc hC hrc hleaf r (i + 1) _ a' w' g' H1 m hr hsr (hgl.trans hgl') ⟨hS', hS.mode.mono hgl'.up.ι hgl'.up.im, ?_, hda⟩ hnx
              rw [utn hT hrec hok']
              exact hS.now) (fun v' H1' g' w' cv he => by cases he)
          split
          · rename_i hw
            rw [if_pos hw] at hst
            unfold Oper.wp at hst
            generalize (execOp a.eval o).run c.P w = q at hst ⊢
            split
            · exact (show False from hst).elim
            · exact hst
          · rename_i hw
            rw [if_neg hw] at hst
            exact hst
        | true =>
          obtain ⟨dst, op, ty, pos, after, guard⟩ := o
          cases op with
          | call cl =>
            obtain ⟨callee, args, tys⟩ := cl
            cases callee with
            | builtin b =>
              cases b with
              | recover =>
                have hgd : guard = none := by
                  cases guard with
                  | none => rfl
                  | some q => simp [uag, hrec] at hso
                subst hgd
                have hv : v = recV c.rc env ∧ H1 = H := by
                  have hg2 : opVal c.P c.C c.rc ops env ⟨dst, .call ⟨.builtin .recover, args, tys⟩, ty, pos, after, none⟩ H = some (.ok v H1) := hg
                  rw [hrc] at hg2 ⊢
                  have hg3 : M.pure (recV (some rv) env) H = some (.ok v H1) := hg2
                  simp only [M.pure, Option.some.injEq, Out.ok.injEq] at hg3
                  exact ⟨hg3.1.symm, hg3.2.symm⟩
                obtain ⟨rfl, rfl⟩ := hv
                have hrun : (execOp a.eval ⟨dst, .call ⟨.builtin .recover, args, tys⟩, ty, pos, after, none⟩).run c.P w = .ok .recover w := rfl
                have hw : Region.wanted ⟨dst, .call ⟨.builtin .recover, args, tys⟩, ty, pos, after, none⟩ (yielded ops a.tmps) = true := rfl
                rw [if_pos hw, hrun]
                dsimp only
                have fin : ∀ (cv : Value) (m' : FrameMode), (∀ L, RepT g L (recV c.rc env) cv) → m' = u5a (.tup []) u → wpOpsS c.P ops Q (List.range' (i + 1) r.length) (a.put dst cv) ({ c0 with mode := m' } :: cs0) w := by
                  intro cv m' hv hm
                  obtain ⟨h1, h2⟩ := utm (ops := ops) hrc hS hrec rfl hok' hv
                  exact ubc hC hrc hleaf r (i + 1) _ _ w g H1 m' hr hsr hgl ⟨h1, hS.mode, by rw [h2]; exact hm, by rw [uh2]; exact hS.defs⟩ hnx
                have hnil : ∀ L, RepT g L .niliface .nilIface := fun L => rT (.flat .niliface) _
                have hmode := hS.mode
                have hnow := hS.now
                cases rv with
                | none =>
                  have hu : u = .returning := hmode
                  subst hu
                  rw [ud3] at hnow
                  subst hnow
                  refine fin .nilIface _ (fun L => ?_) (ud3 _).symm
                  rw [hrc]
                  exact hnil L
                | some p =>
                  obtain ⟨cv, rfl, hp⟩ := hmode
                  rcases ui3 hT with hsl | hsl
                  · rw [hsl] at hnow
                    subst hnow
                    refine fin cv _ (fun L => ?_) rfl
                    have : recV c.rc env = p := by
                      rw [hrc]
                      unfold recV
                      show (match slotV env with | .tup [] => PV.niliface | _ => p) = p
                      rw [hsl]
                    rw [this]
                    exact rT hp L
                  · rw [hsl] at hnow
                    subst hnow
                    refine fin .nilIface _ (fun L => ?_) rfl
                    have : recV c.rc env = .niliface := by
                      rw [hrc]
                      unfold recV
                      show (match slotV env with | .tup [] => PV.niliface | _ => p) = _
                      rw [hsl]
                    rw [this]
                    exact hnil L
              | _ => cases hrec
            | _ => cases hrec
          | _ => cases hrec
theorem uqd {rc : Option (Option PV)} {pr : List Tmp} {ops : Array Oper} {o : Oper} {v : PV} (hs : slotV env = .undef ∨ slotV env = .tup []) (hr : u0m o = false) (hd : okDst true pr env o.dst = true) : slotV (put rc ops env o v) = slotV env := by
  have hg : slotV (giveUp env (given ops o)) = slotV env := by
    unfold slotV at hs ⊢
    rw [u5y]
    unfold giveUp
    split
    · rw [u6e]
      split
      · rename_i hh
        rw [hh.1]
        exact ucs hs
      · rfl
    · rw [u6e]
      split
      · rename_i hh
        rw [hh.1]
        exact u9y _ hs
      · rfl
    · rfl
  have htook : took rc o (giveUp env (given ops o)) = giveUp env (given ops o) := by
    unfold took
    simp [hr]
  unfold Pi.put
  rw [htook]
  cases hdst : o.dst with
  | none => exact hg
  | some d =>
    rw [hdst] at hd
    have h1 := ue0 hd
    show slotV ((giveUp env (given ops o)).set d v) = _
    rw [uhh (by rw [u5y]; exact h1)]
    exact hg
theorem u8k (hC : CSound c.P c.C) (hrc : c.rc = some rv) {LL : LoopT} :
    ∀ (co : Code) (af : List Tmp) (k : K) (Q : Exit → Act → List Frame → World → Prop), u6m co = true → (∀ e, LeafD c rv u c0 cs0 g0 w0 (.ok v0 H0) (k e) (Q e.to)) →
      ∀ env a w g H m, Glob g0 w0 g w → StaD c rv u g H env a w m → den c LL af co env k H = some (.ok v0 H0) → co.wpS c.P Q a ({ c0 with mode := m } :: cs0) w
  | .skip, af, k, Q, hs, hk, env, a, w, g, H, m, hgl, hS, h => wpS_of_wp (wp_skip (hk .normal env a w g H m hgl hS h))
  | .ret, af, k, Q, hs, hk, env, a, w, g, H, m, hgl, hS, h => wpS_of_wp (wp_ret (hk .ret env a w g H m hgl hS h))
  | .region id ops false, af, k, Q, hs, hk, env, a, w, g, H, m, hgl, hS, h => by
    refine wpS_region ?_
    have hs' : ∀ o ∈ ops.toList, uag o = true := fun o ho => List.all_eq_true.mp hs o ho
    have := ubc (Q := Q) hC hrc (hk .normal) ops.toList 0 env a w g H m (fun j => by simp) hs' hgl hS h
    rwa [List.range_eq_range', ← Array.length_toList]
  | .region id ops true, af, k, Q, hs, hk, env, a, w, g, H, m, hgl, hS, h => by
    have h : guardM (c.P.follows .mixedOrders && commB ops) (bif modeP ops && c.rc.isNone then dOpsP c ops env (k .normal) else bif ops.any u3y || c.rc.isSome then dOpsW c ops 0 [] ops.toList env (k .normal) else dOpsN c ops ops.toList env (k .normal)) H = some (.ok v0 H0) := h
    obtain ⟨hg, h⟩ := u0c h
    simp only [Bool.and_eq_true] at hg
    have hbr : (ops.any u3y || c.rc.isSome) = true := by rw [hrc]; simp
    have hbp : (modeP ops && c.rc.isNone) = false := by rw [hrc]; simp
    rw [hbp, hbr] at h
    have hT : TOk 1 g env a.tmps := by
      have := hS.sta.tok
      rw [hrc] at this
      exact this
    obtain ⟨e', H', L, l1, _, l3, l4, hk'⟩ := ulu ops.toList [] 0 env H (fun j => by simp) h
    refine wpS_of_wp (wp_region_any hg.1 (uac (c := c) (Q := fun e a w => Q e a ({ c0 with mode := m } :: cs0) w) hC hg.2 (R := fun l e K => slotV e = slotV env ∧ RW c ops e' H' l e K) (Δ := []) (g0 := g) (w0 := w)
      (fun A i B oi e K hi ha hnb hR => ?_) (fun e K g' a' w' hR hgl' hS' => ?_) ops.size _ env H a _ g (by simp) ?_ ?_ ?_ (u9h g w) hS.sta.drew))
    · obtain ⟨r1, r2⟩ := hR
      obtain ⟨h1, v, H1, h2, h3⟩ := RW.front hg.2 A i B oi e K hi ha hnb r2
      refine ⟨h1, v, H1, h2, ?_, h3⟩
      rw [hrc] at h1
      rw [uqd (by rw [r1]; exact ui3 hT) (u3v hg.2 hi).1 h1, r1]
    · obtain ⟨r1, r2⟩ := hR
      obtain ⟨rfl, rfl⟩ := r2.nil
      refine hk .normal e a' w' g' K m (hgl.trans hgl') ⟨hS', hS.mode.mono hgl'.up.ι hgl'.up.im, by rw [r1]; exact hS.now, ?_⟩ hk'
      have := hS'.defs
      cases hd : a'.defers with
      | nil => rfl
      | cons x y => rw [hd] at this; exact this.elim
    · exact Nat.le_trans (List.length_filter_le _ _) (by simp)
    · intro j i hj hl
      simp [Array.getD_eq_getD_getElem?, hj] at hl
    · refine ⟨rfl, ?_⟩
      have hall : restOf ops (Array.replicate ops.size false) = List.range' 0 ops.toList.length := by
        unfold restOf
        rw [List.filter_eq_self.mpr, List.range_eq_range', Array.length_toList]
        intro i hi
        simp [Array.getD_eq_getD_getElem?, List.mem_range.mp hi]
      rw [hall]
      exact ⟨L, l1, l3, l4⟩
  | .seq y z, af, k, Q, hs, hk, env, a, w, g, H, m, hgl, hS, h => by
    have hs1 : u6m y = true ∧ u6m z = true := by simpa [u6m] using hs
    refine wpS_seq (u8k hC hrc y ((rw z).1 ++ af) _ (Exit.thenS (z.wpS c.P Q) Q) hs1.1 (fun e => ?_) env a w g H m hgl hS h)
    cases e with
    | normal =>
      intro env a w g H m hgl hS h
      have h : (bif c.rc.isNone && joinB y then LL af z (keep ((rw z).1 ++ af) env) k else den c LL af z env k) H = some (.ok v0 H0) := h
      rw [hrc] at h
      exact u8k hC hrc z af k Q hs1.2 hk env a w g H m hgl hS h
    | exit id => exact hk (.exit id)
    | ret => exact hk .ret
  | .cond q y z, af, k, Q, hs, hk, env, a, w, g, H, m, hgl, hS, h => by
    have hs1 : u6m y = true ∧ u6m z = true := by simpa [u6m] using hs
    have rq := ev_rep hS.sta.inv hS.sta.tok q
    have h : condM (ev env q) (den c LL af y env k) (den c LL af z env k) H = some (.ok v0 H0) := h
    unfold condM at h
    cases hv : ev env q with
    | bool b =>
      rw [hv] at h rq
      have hq := rq.bool
      dsimp only at h
      refine wpS_cond hq ?_
      cases b
      · exact u8k hC hrc z af k Q hs1.2 hk env a w g H m hgl hS h
      · exact u8k hC hrc y af k Q hs1.1 hk env a w g H m hgl hS h
    | _ => (rw [hv] at h; exact (u04 (H := H) h).elim)
theorem TOk.slotted {tm : Array Value} (h : TOk 0 g env tm) : TOk 1 g (env ++ [.undef]) tm := by
  have hl := h.len
  refine ⟨Nat.le_refl 1, by simp [hl], fun t v p hv hp => ?_, fun t p ht hp => ?_⟩
  · have h1 := (Array.getElem?_eq_some_iff.mp hv).1
    rw [List.getElem?_append_left (by omega)] at hp
    exact h.val t v p hv hp
  · rw [List.getElem?_append_right (by omega)] at hp
    have := List.mem_of_getElem? hp
    exact .inl (by simpa using this)
theorem uoy {m : M PV} {o : Out PV} (h : noPan m H = some o) : ∃ v H', o = .ok v H' ∧ m H = some (.ok v H') := by
  unfold noPan at h
  split at h
  · rename_i v H' hm
    cases h
    exact ⟨v, H', rfl, hm⟩
  · cases h
theorem uuy {m : M PV} {v : PV} {H' : Heap} (h : trunc m H = some (.ok v H')) : ∃ H1, m H = some (.ok v H1) ∧ H' = bif v.low H.length then H1.take H.length else H1 := by
  unfold trunc at h
  split at h
  · cases h
  · rename_i v1 H1 hm
    cases h
    exact ⟨H1, hm, rfl⟩
  · rename_i v1 H1 hm
    cases hl : v1.low H.length <;> rw [hl] at h <;> cases h
theorem ukh {C : CallT} {CD : Option PV → CallT} {LL : Option (Option PV) → List Tmp → (Env → M PV) → LoopT} (hC : CSound P C) {rv : Option PV} {f : FuncId} {args : List PV} {out : Out PV} (h : fnDenD P C CD LL rv f args H = some out) :
    u6y P f = true ∧ ∃ v H', out = .ok v H' ∧ ∀ g w cargs u, Inv g H w → ArgsOk g args cargs → ModeOk g rv u →
      CallsD P f cargs u w fun e u' w' => ∃ g' cv, Glob g w g' w' ∧ Grow u8a g g' ∧ e = .returned cv ∧ Inv g' H' w' ∧ u' = u5a v u := by
  unfold fnDenD at h
  cases hf : P.funcs[f]? with
  | none => rw [hf] at h; exact (u04 (H := H) h).elim
  | some fn =>
    rw [hf] at h
    dsimp only at h
    cases hb : fn.body with
    | none => rw [hb] at h; exact (u04 (H := H) h).elim
    | some b =>
      rw [hb] at h
      dsimp only at h
      obtain ⟨hn, h⟩ := u0c h
      simp only [Bool.and_eq_true] at hn
      obtain ⟨hsb, hre, hn⟩ := hn
      obtain ⟨v, H', rfl, h2⟩ := uoy h
      obtain ⟨H1, h3, rfl⟩ := uuy h2
      refine ⟨by unfold u6y; rw [hf]; simp only [hn, hb]; rfl, v, _, rfl, fun g w cargs u hi ha hm => ?_⟩
      refine callsD_of_wpS hf hb fun c₀ cs hu => ?_
      have hend : ∀ (env : Env) (a : Act) (w1 : World) (g1 : G) (H2 : Heap) (m : FrameMode), Glob (g.ren upF) w g1 w1 → StaD ⟨P, protOf fn, C, CD, some rv, resM P fn⟩ rv u g1 H2 env a w1 m → M.pure (env.getD (env.length - 1) .undef) H2 = some (.ok v H1) →
          a.defers = [] ∧ ∃ u', ({ c₀ with mode := m } : Frame) :: cs = { c₀ with mode := u' } :: cs ∧ ∃ vv, (results fn a.tmps).run P w1 = .ok vv w1 ∧ ∃ g' cv, Glob g w g' w1 ∧ Grow u8a g g' ∧ Ending.returned vv = .returned cv ∧ Inv g' (bif v.low H.length then H1.take H.length else H1) w1 ∧ u' = u5a v u := by
        intro env a w1 g1 H2 m hgl hS hp
        simp only [M.pure, Option.some.injEq, Out.ok.injEq] at hp
        obtain ⟨hv, rfl⟩ := hp
        have hrs : (results fn a.tmps).run P w1 = .ok (.tuple #[]) w1 := by
          have he : fn.results.toList = [] := by
            have : fn.results = #[] := by simpa using hre
            rw [this]
          have := ufu (P := P) (w := w1) (fn := fn) (tm := a.tmps) (vs := []) (by rw [he]; rfl)
          simpa using this
        have hsl : v = .undef ∨ v = .tup [] := by
          have := ui3 (hS.sta.tok : TOk 1 g1 env a.tmps)
          rw [← hv]
          exact this
        have hrep : RepT g1 .res v (.tuple #[]) := by
          rcases hsl with rfl | rfl
          · exact .one (.undef _)
          · exact .tup rfl fun j p q hp => by simp at hp
        obtain ⟨g', h1, h2, cv, h3, h4, h5⟩ := uq6 hi.len hgl hS.sta.inv hrep
        refine ⟨hS.defs, m, rfl, _, hrs, g', cv, h1, h2, h3, h4, ?_⟩
        rw [hS.now, ← hv]
        rfl
      have hst : StaD ⟨P, protOf fn, C, CD, some rv, resM P fn⟩ rv u (g.ren upF) H (args ++ List.replicate (fn.ntmps - args.length) .undef ++ [.undef]) { tmps := cargs ++ Array.replicate (fn.ntmps - cargs.size) undef, defers := [] } w u := by
        refine ⟨⟨hi.ren (fun _ _ => rfl), (uk7 ha).slotted, True.intro⟩, hm.mono (fun _ _ h => h) (fun _ _ _ h => h), ?_, rfl⟩
        have : slotV (args ++ List.replicate (fn.ntmps - args.length) .undef ++ [.undef]) = .undef := by
          unfold slotV
          simp
        rw [this]
        unfold u5a
        split <;> first | rfl | (rename_i h; cases h)
      have := u8k (c := ⟨P, protOf fn, C, CD, some rv, resM P fn⟩) (u := u) (c0 := c₀) (cs0 := cs) (g0 := g.ren upF) (w0 := w) hC rfl b (fn.ntmps :: ucm fn) _ (bodyPostS P fn c₀ cs fun e u' w' => ∃ g' cv, Glob g w g' w' ∧ Grow u8a g g' ∧ e = .returned cv ∧ Inv g' (bif v.low H.length then H1.take H.length else H1) w' ∧ u' = u5a v u) hsb (fun e => ?_) _ _ w (g.ren upF) H u (Glob.refl _ _) hst h3
      · have e : ({ c₀ with mode := u } : Frame) = c₀ := by rw [← hu]
        rw [e] at this
        exact this
      · cases e with
        | normal => exact fun env a w g H m hgl hS h => hend env a w g H m hgl hS h
        | ret => exact fun env a w g H m hgl hS h => hend env a w g H m hgl hS h
        | exit id => exact fun env a w g H m hgl hS h => (u04 (H := H) h).elim
end Go.Proofs.YthnmienjiangkaaGreatDoor.Pi
namespace Go.Proofs.YthnmienjiangkaaGreatDoor.Pi
variable {P : Program} {X : ExtT} {H : Heap}
def XSound (P : Program) (X : ExtT) : Prop :=
  ∀ f m, X f = some m → ∀ args H out, m args H = some out → u6y P f = true ∧ ∀ g w cargs, Inv g H w → ArgsOk g args cargs → Calls P f cargs w (u6c g w out)
theorem usj (hX : XSound P X) (n : Nat) : CSound P (sem P X n).C ∧ ul8 P (sem P X n).CD := by
  induction n using Nat.strongRecOn with
  | _ n ih =>
    cases n with
    | zero => exact ⟨fun f args H out h => (u04 (H := H) h).elim, fun rv f args H out h => (u04 (H := H) h).elim⟩
    | succ n =>
      have hn := ih n (Nat.lt_succ_self n)
      refine ⟨fun f args H out h => ?_, fun rv f args H out h => ukh hn.1 h⟩
      have h : (match X f with | some m => m args | none => fnDen P (sem P X n).C (sem P X n).CD (sem P X n).L f args) H = some out := h
      cases hf : X f with
      | some m => rw [hf] at h; exact hX f m hf args H out h
      | none =>
        rw [hf] at h
        exact ulm hn.1 hn.2 (fun fn => uot n (fun m hm => (ih m (by omega)).1) _ _ _ (fun m hm r f a => ury m r f a (by omega)) n (Nat.le_refl n)) h
theorem ult (hX : XSound P X) : CSound P (callW P X) := by
  intro f args H out h
  obtain ⟨n, hn⟩ := ((ufa P X f args).lim H out).mp h
  exact (usj hX n).1 f args H out hn
theorem noX : XSound P (fun _ => none) := fun f m h => by cases h
end Go.Proofs.YthnmienjiangkaaGreatDoor.Pi
namespace Go.Proofs.YthnmienjiangkaaGreatDoor.Pi
noncomputable def kAt (c : Ctx) (L : LoopT) : List Nat → List Tmp → Code → K → List Tmp × Code × K
  | [], af, co, k => (af, co, k)
  | 0 :: p, af, .seq a b, k => kAt c L p ((rw b).1 ++ af) a fun
    | .normal, env' => bif c.rc.isNone && joinB a then L af b (keep ((rw b).1 ++ af) env') k else den c L af b env' k
    | e, env' => k e env'
  | _ :: p, af, .seq a b, k => kAt c L p af b k
  | 0 :: p, af, .cond _ a b, k => kAt c L p af a k
  | _ :: p, af, .cond _ a b, k => kAt c L p af b k
  | _ :: p, af, .block id b, k => kAt c L p af b fun
    | .exit i, env' => bif i == id then k .normal env' else k (.exit i) env'
    | e, env' => k e env'
  | _ :: p, af, .loop b, k => kAt c L p (alive af b) b fun
    | .normal, env' => L af (.loop b) (keep (alive af b) env') k
    | e, env' => k e env'
  | _, af, co, k => (af, co, k)
section
variable (P : Program) (X : ExtT)
noncomputable def kOf (f : FuncId) (p : List Nat) : List Tmp × Code × K :=
  match P.funcs[f]? with
  | some fn => match fn.body with
    | some b => kAt (ctxW P X none (protOf fn) (resM P fn)) (loopW P X none (protOf fn) (resM P fn)) p (ucm fn) b fun
      | .exit _, _ => M.fail
      | _, env => resM P fn env
    | none => ([], .skip, fun _ _ => M.fail)
  | none => ([], .skip, fun _ _ => M.fail)
noncomputable def ctxOf (f : FuncId) : Ctx :=
  match P.funcs[f]? with
  | some fn => ctxW P X none (protOf fn) (resM P fn)
  | none => ctxW P X none [] (fun _ => M.fail)
noncomputable def atP (f : FuncId) (p : List Nat) (env : Env) : M PV :=
  loopW P X none (ctxOf P X f).prot (ctxOf P X f).res (kOf P X f p).1 (kOf P X f p).2.1 env (kOf P X f p).2.2
noncomputable def stepP (f : FuncId) (p : List Nat) (env : Env) : M PV :=
  go1 (ctxW P X none (ctxOf P X f).prot (ctxOf P X f).res) (loopW P X none (ctxOf P X f).prot (ctxOf P X f).res) (kOf P X f p).1 (kOf P X f p).2.1 env (kOf P X f p).2.2
theorem u0q (f : FuncId) (p : List Nat) (env : Env) : atP P X f p env = stepP P X f p env := uv0 P X none _ _ _ _ _ _
def mkEnv : Nat → Nat → List (Nat × PV) → Env
  | 0, _, _ => []
  | n + 1, i, (j, v) :: r => bif i == j then v :: mkEnv n (i + 1) r else .undef :: mkEnv n (i + 1) ((j, v) :: r)
  | n + 1, i, [] => .undef :: mkEnv n (i + 1) []
end
end Go.Proofs.YthnmienjiangkaaGreatDoor.Pi
namespace Go.Proofs.YthnmienjiangkaaGreatDoor.Pi
theorem nrfl {γ : Sort _} {a b : γ} (h : a = b) : a = b := h
variable {α β : Type} {H : Heap} {k : IntKind} {a b n m : Int} {x y : PV} {ek : EqK}
@[simp] theorem uk9 : strip (.int k n) = .int k n := nrfl rfl
@[simp] theorem uh1 {t : Bool} : strip (.bool t) = .bool t := nrfl rfl
@[simp] theorem ukl {s : ByteArray} : strip (.str s) = .str s := nrfl rfl
@[simp] theorem ueb {o z : Bool} {sz : Nat} {xs : List PV} : strip (.slice o z sz xs) = .slice false z sz xs := nrfl rfl
@[simp] theorem uje {i o : Nat} : strip (.ptr i o) = .ptr i o := nrfl rfl
@[simp] theorem uiq {cs : List PV} : strip (.agg cs) = .agg cs := nrfl rfl
@[simp] theorem ugv {cs : List PV} : strip (.elem cs) = .elem cs := nrfl rfl
@[simp] theorem uke : strip .nil = .nil := nrfl rfl
@[simp] theorem uay : strip .niliface = .niliface := nrfl rfl
@[simp] theorem uf2 {t : TypeId} {v : PV} : strip (.iface t v) = .iface t v := nrfl rfl
@[simp] theorem unm {f : FuncId} {u v : List PV} : strip (.fn f u v) = .fn f u v := nrfl rfl
@[simp] theorem ufb : strip .undef = .undef := nrfl rfl
@[simp] theorem ujp {vs : List PV} : strip (.tup vs) = .tup (vs.map stripC) := nrfl rfl
@[simp] theorem uhd : stripC (.int k n) = .int k n := nrfl rfl
@[simp] theorem uej {t : Bool} : stripC (.bool t) = .bool t := nrfl rfl
@[simp] theorem uhc {s : ByteArray} : stripC (.str s) = .str s := nrfl rfl
@[simp] theorem ud6 {o z : Bool} {sz : Nat} {xs : List PV} : stripC (.slice o z sz xs) = .slice false z sz xs := nrfl rfl
@[simp] theorem ugd {i o : Nat} : stripC (.ptr i o) = .ptr i o := nrfl rfl
@[simp] theorem ugu {cs : List PV} : stripC (.agg cs) = .agg cs := nrfl rfl
@[simp] theorem uh9 : stripC .nil = .nil := nrfl rfl
@[simp] theorem ua0 : stripC .niliface = .niliface := nrfl rfl
@[simp] theorem uda {t : TypeId} {v : PV} : stripC (.iface t v) = .iface t v := nrfl rfl
@[simp] theorem uim {f : FuncId} {u v : List PV} : stripC (.fn f u v) = .fn f u v := nrfl rfl
@[simp] theorem bi_add : bi .add ek (.int k a) (.int k b) = M.pure (.int k (k.wrap (a + b))) := nrfl (by cases k <;> rfl)
@[simp] theorem bi_sub : bi .sub ek (.int k a) (.int k b) = M.pure (.int k (k.wrap (a - b))) := nrfl (by cases k <;> rfl)
@[simp] theorem bi_mul : bi .mul ek (.int k a) (.int k b) = M.pure (.int k (k.wrap (a * b))) := nrfl (by cases k <;> rfl)
@[simp] theorem bi_eql : bi .eql ek (.int k a) (.int k b) = M.pure (.bool (a == b)) := nrfl (by cases k <;> rfl)
@[simp] theorem bi_neq : bi .neq ek (.int k a) (.int k b) = M.pure (.bool (a != b)) := nrfl (by cases k <;> rfl)
@[simp] theorem bi_lss : bi .lss ek (.int k a) (.int k b) = M.pure (.bool (decide (a < b))) := nrfl (by cases k <;> rfl)
@[simp] theorem bi_leq : bi .leq ek (.int k a) (.int k b) = M.pure (.bool (decide (a ≤ b))) := nrfl (by cases k <;> rfl)
@[simp] theorem bi_gtr : bi .gtr ek (.int k a) (.int k b) = M.pure (.bool (decide (a > b))) := nrfl (by cases k <;> rfl)
@[simp] theorem bi_geq : bi .geq ek (.int k a) (.int k b) = M.pure (.bool (decide (a ≥ b))) := nrfl (by cases k <;> rfl)
@[simp] theorem ut2 {s t : ByteArray} : bi .eql ek (.str s) (.str t) = M.pure (.bool (s.toList == t.toList)) := nrfl rfl
@[simp] theorem urt {s t : ByteArray} : bi .neq ek (.str s) (.str t) = M.pure (.bool (!(s.toList == t.toList))) := nrfl rfl
@[simp] theorem uro {s t : Bool} : bi .eql .bool (.bool s) (.bool t) = M.pure (.bool (s == t)) := nrfl rfl
@[simp] theorem urq {s t : Bool} : bi .neq .bool (.bool s) (.bool t) = M.pure (.bool (!(s == t))) := nrfl rfl
@[simp] theorem un_not {t : Bool} : un .not (.bool t) = M.pure (.bool (!t)) := nrfl rfl
@[simp] theorem uiw {o z : Bool} {sz : Nat} {xs : List PV} : lnL (.slice o z sz xs) = M.pure (.int .i64 xs.length) := nrfl rfl
@[simp] theorem ur7 {s : ByteArray} : lnS (.str s) = M.pure (.int .i64 s.size) := nrfl rfl
@[simp] theorem mx_int : mx (.int k a) (.int k b) = M.pure (.int k (if b > a then b else a)) := nrfl (by cases k <;> rfl)
@[simp] theorem mn_int : mn (.int k a) (.int k b) = M.pure (.int k (if b < a then b else a)) := nrfl (by cases k <;> rfl)
@[simp] theorem cv_int {o : Bool} {j : IntKind} : cv (.int k) o (.int j n) = M.pure (.int k (k.wrap n)) := nrfl rfl
@[simp] theorem ux6 {v : PV} {r : List PV} : ex 0 (.tup (v :: r)) = M.pure v := nrfl rfl
@[simp] theorem ux5 {u v : PV} {r : List PV} : ex 1 (.tup (u :: v :: r)) = M.pure v := nrfl rfl
@[simp] theorem ux7 {t u v : PV} {r : List PV} : ex 2 (.tup (t :: u :: v :: r)) = M.pure v := nrfl rfl
end Go.Proofs.YthnmienjiangkaaGreatDoor.Pi
namespace Go.Proofs.YthnmienjiangkaaGreatDoor.Pi
variable {P : Program} {X : ExtT}
def gOf (im : Nat → Nat → Option Value) : G := ⟨[], im, fun _ => none⟩
theorem uw2 {im : Nat → Nat → Option Value} {w : World} (him : ∀ b o v, im b o = some v → w.cell? ⟨b, o, none⟩ = some v) (hg : GlobOk im) : Inv (gOf im) [] w :=
  ⟨rfl, fun i j b h => by simp [gOf] at h, him, fun b L s h => by simp [gOf] at h, fun id b y h => by simp [gOf] at h, hg⟩
theorem walk_law (hX : XSound P X) {f : FuncId} {args : List PV} {H' : Heap} (h : callW P X f args [] = some (.ok (.bool true) H')) {im : Nat → Nat → Option Value} {w : World} {cargs : Array Value}
    (him : ∀ b o v, im b o = some v → w.cell? ⟨b, o, none⟩ = some v) (ha : ArgsOk (gOf im) args cargs) (hg : GlobOk im) : Calls P f cargs w fun e w' => e = .returned (.bool true) ∧ RowKit.Below w.heap.size w w' := by
  obtain ⟨_, hs⟩ := ult hX f args [] _ h
  refine (hs (gOf im) w cargs (uw2 him hg) ha).mono ?_
  rintro e w' ⟨g', hgl, hgr, cv, rfl, hi, hr⟩
  have hv : cv = .bool true := by
    cases hr with
    | one hr => cases hr with
      | pure hr => cases hr with
        | flat hr => cases hr; rfl
  subst hv
  exact ⟨rfl, hgl.os, hgl.tape, hgl.output, hgl.size, fun k hk => (hgl.old k hk rfl (by simp [gOf])).2.2⟩
end Go.Proofs.YthnmienjiangkaaGreatDoor.Pi
namespace Go.Proofs.YthnmienjiangkaaGreatDoor.Pi
variable {α β : Type} {H : Heap} {k j : IntKind} {a b n m : Int} {x y : PV} {ek : EqK}
def resT (v : PV) (m : M PV) : M PV := bif isTup v then M.fail else m
def hget (H : Heap) (id : Nat) : Option Box := H[id]?
def hset (H : Heap) (id : Nat) (b : Box) : Heap := H.set id b
def hadd (H : Heap) (L : List Box) : Heap := H ++ L
def hcut (H : Heap) (n : Nat) : Heap := H.take n
abbrev hlen (H : Heap) : Nat := List.length H
def run (m : M α) (H : Heap) : Option (Out α) := m H
def bindR (r : Option (Out α)) (f : α → M β) : Option (Out β) :=
  match r with
  | none => none
  | some (.ok v H) => run (f v) H
  | some (.pan v H) => some (.pan v H)
def truncR (H : Heap) (r : Option (Out PV)) : Option (Out PV) :=
  match r with
  | none => none
  | some (.ok v H') => some (.ok v (bif v.low H.length then hcut H' H.length else H'))
  | some (.pan v H') => bif v.low H.length then some (.pan v (hcut H' H.length)) else none
noncomputable def nbR (H : Heap) (r : Option (Out α)) (f : α → M β) : Option (Out β) := nb (fun _ => r) f H
@[congr] theorem uvf {r r' : Option (Out α)} {f : α → M β} (h : r = r') : bindR r f = bindR r' f := by rw [h]
@[congr] theorem ux4 {r r' : Option (Out α)} {f : α → M β} (h : r = r') : nbR H r f = nbR H r' f := by rw [h]
@[congr] theorem uw3 {c c' : PV} {x y : M α} (h : c = c') : condM c x y = condM c' x y := by rw [h]
@[congr] theorem uvb {c c' : Bool} {x : M α} (h : c = c') : guardM c x = guardM c' x := by rw [h]
@[congr] theorem ux1 {c c' : PV} {x : M PV} (h : c = c') : resT c x = resT c' x := by rw [h]
theorem run_bind {m : M α} {f : α → M β} : run (M.bind m f) H = bindR (run m H) f := nrfl rfl
theorem unb {f : α → M β} {v : α} {H : Heap} : bindR (some (.ok v H)) f = run (f v) H := nrfl rfl
theorem uh0 {f : α → M β} : bindR none f = none := nrfl rfl
theorem uj1 {f : α → M β} {v : PV} {H : Heap} : bindR (some (.pan v H)) f = some (.pan v H) := nrfl rfl
theorem uks {c : Prop} [Decidable c] {r r' : Option (Out α)} {f : α → M β} : bindR (if c then r else r') f = if c then bindR r f else bindR r' f := by split <;> rfl
theorem run_nb {m : M α} {f : α → M β} : run (nb m f) H = nbR H (run m H) f := nrfl rfl
theorem nbR_ok {f : α → M β} {v : α} : nbR H (some (.ok v H)) f = run (f v) H := by simp [nbR, nb, run]
theorem usf {c : Prop} [Decidable c] {r r' : Option (Out α)} {f : α → M β} : nbR H (if c then r else r') f = if c then nbR H r f else nbR H r' f := by split <;> rfl
theorem ueh {m : M PV} : run (trunc m) H = truncR H (run m H) := nrfl rfl
theorem ugq {c : Prop} [Decidable c] {r r' : Option (Out PV)} : truncR H (if c then r else r') = if c then truncR H r else truncR H r' := by split <;> rfl
theorem uf4 : truncR H none = none := nrfl rfl
theorem uj5 {v : PV} {H' : Heap} : truncR H (some (.ok v H')) = some (.ok v (if v.low H.length = true then hcut H' H.length else H')) := by
  show some (Out.ok v (bif v.low H.length then hcut H' H.length else H')) = _
  cases v.low H.length <;> rfl
theorem ucx {v : PV} {H' : Heap} : truncR H (some (.pan v H')) = if v.low H.length = true then some (.pan v (hcut H' H.length)) else none := by
  show (bif v.low H.length then some (Out.pan v (hcut H' H.length)) else none) = _
  cases v.low H.length <;> rfl
theorem uis {c : Bool} {m : M α} : run (guardM c m) H = if c = true then run m H else none := by cases c <;> rfl
theorem uon {v : PV} {m : M PV} : run (resT v m) H = if isTup v = true then none else run m H := by unfold resT; cases isTup v <;> rfl
theorem unt {c : Bool} {x y : M α} : run (condM (.bool c) x y) H = if c = true then run x H else run y H := by cases c <;> rfl
theorem ur8 {c : Bool} {m : M PV} : run (gd (.bool c) true m) H = if c = true then run m H else some (.ok (.tup []) H) := by cases c <;> rfl
theorem ute {c : Bool} {m : M PV} : run (gd (.bool c) false m) H = if c = true then some (.ok (.tup []) H) else run m H := by cases c <;> rfl
theorem ugs : strip (.tup []) = .tup [] := nrfl rfl
theorem ur9 {b : Bool} {m : M PV} : run (gd (.tup []) b m) H = some (.ok (.tup []) H) := nrfl rfl
theorem uo3 {c : Bool} : run (pick (.bool c) x y) H = if c = true then some (.ok (strip x) H) else some (.ok (strip y) H) := by cases c <;> rfl
theorem run_pure {v : α} : run (M.pure v) H = some (.ok v H) := nrfl rfl
theorem urr {v : PV} : run (M.pan v : M α) H = some (.pan v H) := nrfl rfl
theorem uoq : run (M.fail : M α) H = none := nrfl rfl
theorem run_al {cs : List PV} : run (al cs) H = if cs.all isCell = true then some (.ok (.ptr H.length 0) (hadd H [.cells cs])) else none := by unfold run al; cases cs.all isCell <;> rfl
theorem run_bx {n : Nat} {v : PV} : run (bx n v) H = if (v.cells.map stripC).length = n ∧ lowL (H.length + 1) (v.cells.map stripC) = true ∧ v.cells.all isCell = true then some (.ok (.ptr H.length 0) (hadd H [.cells (v.cells.map stripC)])) else none := by
  unfold run bx
  cases h1 : ((v.cells.map stripC).length == n) <;> cases h2 : lowL (H.length + 1) (v.cells.map stripC) <;> cases h3 : v.cells.all isCell <;> simp_all [hadd]
theorem ub3 (a b : Nat) : (a == b) = decide (a = b) := by rw [Bool.eq_iff_iff]; simp
def ldB (n : Option Nat) (mv : Bool) (id o : Nat) (H : Heap) : Option Box → Option (Out PV)
  | some (.cells cs) => match n with
      | none => match cs[o]? with
        | some v => bif mv then some (.ok v (hset H id (.cells (cs.set o (stripC v))))) else some (.ok (stripC v) H)
        | none => none
      | some n => bif decide (o + n ≤ cs.length) then some (.ok (.agg (((cs.drop o).take n).map stripC)) H) else none
  | _ => none
theorem run_ld {n : Option Nat} {mv : Bool} {id o : Nat} : run (ld n mv (.ptr id o)) H = ldB n mv id o H (hget H id) := by
  unfold run ld ldB
  rfl
def stB (n : Nat) (mv : Bool) (id o : Nat) (v : PV) (H : Heap) : Option Box → Option (Out PV)
  | some (.cells cs) => bif v.cells.length == n && (decide (o + n ≤ cs.length) && (lowL (id + 1) v.cells && v.cells.all isCell)) then
        some (.ok .undef (hset H id (.cells (fillAt o (bif mv then v.cells else v.cells.map stripC) cs))))
      else none
  | _ => none
theorem run_st {n : Nat} {mv : Bool} {id o : Nat} {v : PV} : run (st n mv (.ptr id o) v) H = stB n mv id o v H (hget H id) := by
  unfold run st stB
  rfl
theorem ung {n : Nat} {mv : Bool} {id o : Nat} {cs : List PV} : ldB (some n) mv id o H (some (.cells cs)) = if o + n ≤ cs.length then some (.ok (.agg (((cs.drop o).take n).map stripC)) H) else none := by
  show (bif decide (o + n ≤ cs.length) then some (Out.ok (PV.agg (((cs.drop o).take n).map stripC)) H) else none) = _
  by_cases h : o + n ≤ cs.length <;> simp [h]
def nth : List α → Nat → Option α
  | [], _ => none
  | v :: _, 0 => some v
  | _ :: r, n + 1 => nth r n
theorem un5 {v : α} {r : List α} : nth (v :: r) 0 = some v := nrfl rfl
theorem und {v : α} {r : List α} {n : Nat} : nth (v :: r) (n + 1) = nth r n := nrfl rfl
theorem nth_is : ∀ (l : List α) (n : Nat), l[n]? = nth l n
  | [], _ => rfl
  | _ :: _, 0 => rfl
  | _ :: r, n + 1 => nth_is r n
def ldTR (H : Heap) (id : Nat) (cs : List PV) (o : Nat) : Option PV → Option (Out PV)
  | some v => some (.ok v (hset H id (.cells (cs.set o (stripC v)))))
  | none => none
def ldFR (H : Heap) : Option PV → Option (Out PV)
  | some v => some (.ok (stripC v) H)
  | none => none
theorem uja {id : Nat} {cs : List PV} {o : Nat} {v : PV} : ldTR H id cs o (some v) = some (.ok v (hset H id (.cells (cs.set o (stripC v))))) := nrfl rfl
theorem ujv {v : PV} : ldFR H (some v) = some (.ok (stripC v) H) := nrfl rfl
theorem ldB_t {id o : Nat} {cs : List PV} : ldB none true id o H (some (.cells cs)) = ldTR H id cs o (nth cs o) := by
  rw [← nth_is]; rfl
theorem ldB_f {id o : Nat} {cs : List PV} : ldB none false id o H (some (.cells cs)) = ldFR H (nth cs o) := by
  rw [← nth_is]; rfl
theorem stB_is {n : Nat} {mv : Bool} {id o : Nat} {v : PV} {cs : List PV} :
    stB n mv id o v H (some (.cells cs)) = if v.cells.length = n ∧ o + n ≤ cs.length ∧ lowL (id + 1) v.cells = true ∧ v.cells.all isCell = true then some (.ok .undef (hset H id (.cells (fillAt o (if mv = true then v.cells else v.cells.map stripC) cs)))) else none := by
  show (bif v.cells.length == n && (decide (o + n ≤ cs.length) && (lowL (id + 1) v.cells && v.cells.all isCell)) then some (Out.ok PV.undef (hset H id (.cells (fillAt o (bif mv then v.cells else v.cells.map stripC) cs)))) else none) = _
  cases hb : v.cells.all isCell <;> cases hc : lowL (id + 1) v.cells <;> by_cases h1 : v.cells.length = n <;> by_cases h2 : o + n ≤ cs.length <;> cases mv <;> simp [h1, h2, ub3 (v.cells.length) n]
theorem umy {mv : Bool} {cs : List PV} {c : PV} : run (ld none mv (.elem (c :: cs))) H = some (.ok c H) := nrfl rfl
theorem une {mv : Bool} {n : Nat} {cs : List PV} : run (ld (some n) mv (.elem cs)) H = if n ≤ cs.length then some (.ok (.agg (cs.take n)) H) else none := by
  show (bif decide (n ≤ cs.length) then M.pure (PV.agg (cs.take n)) else M.fail) H = _
  by_cases h : n ≤ cs.length <;> simp [h, M.pure, M.fail]
theorem u2k {L : List Box} (k : Nat) : hget (hadd H L) (H.length + k) = nth L k := by unfold hget hadd; rw [List.getElem?_append_right (Nat.le_add_right _ _), Nat.add_sub_cancel_left, nth_is]
theorem u8x {L : List Box} : hget (hadd H L) H.length = nth L 0 := u2k 0
theorem u81 {L : List Box} {i : Nat} (h : i < H.length) : hget (hadd H L) i = hget H i := List.getElem?_append_left h
theorem u67 {L : List Box} {x : Box} (k : Nat) : hset (hadd H L) (H.length + k) x = hadd H (L.set k x) := by unfold hset hadd; rw [List.set_append_right _ _ (Nat.le_add_right _ _), Nat.add_sub_cancel_left]
theorem umt {L : List Box} {x : Box} : hset (hadd H L) H.length x = hadd H (L.set 0 x) := u67 0
theorem ucn {L : List Box} {i : Nat} {x : Box} (h : i < H.length) : hset (hadd H L) i x = hadd (hset H i x) L := List.set_append_left _ _ h
theorem u5u {i : Nat} {x : Box} (h : i < H.length) : hget (hset H i x) i = some x := by unfold hget hset; rw [List.getElem?_set_self h]
theorem set_set {i : Nat} {x y : Box} : hset (hset H i x) i y = hset H i y := List.set_set _
theorem u9q {L K : List Box} : hadd (hadd H L) K = hadd H (L ++ K) := List.append_assoc _ _ _
theorem uls {A L : List Box} {n : Nat} (h : n = A.length) : hcut (hadd A L) n = A := by subst h; simp [hcut, hadd]
theorem ulb {A : List Box} {n : Nat} (h : n = A.length) : hcut A n = A := by subst h; simp [hcut]
theorem cut0 : hcut H H.length = H := ulb rfl
theorem cut1 {i : Nat} {x : Box} : hcut (hset H i x) H.length = hset H i x := ulb (by unfold hset; simp)
theorem cut2 {i j : Nat} {x y : Box} : hcut (hset (hset H i x) j y) H.length = hset (hset H i x) j y := ulb (by unfold hset; simp)
theorem cutA0 {L : List Box} : hcut (hadd H L) H.length = H := uls rfl
theorem cutA1 {L : List Box} {i : Nat} {x : Box} : hcut (hadd (hset H i x) L) H.length = hset H i x := uls (by unfold hset; simp)
theorem cutA2 {L : List Box} {i j : Nat} {x y : Box} : hcut (hadd (hset (hset H i x) j y) L) H.length = hset (hset H i x) j y := uls (by unfold hset; simp)
theorem u6u {L : List Box} : List.length (hadd H L) = H.length + L.length := List.length_append
theorem u8d {i : Nat} {x : Box} : List.length (hset H i x) = H.length := List.length_set
theorem uc4 {L : List Box} {i : Nat} {y : Box} (k : Nat) : hget (hadd (hset H i y) L) (H.length + k) = nth L k := by
  have := u2k (H := hset H i y) (L := L) k
  rwa [u8d] at this
theorem uc7 {L : List Box} {i : Nat} {y : Box} : hget (hadd (hset H i y) L) H.length = nth L 0 := uc4 0
theorem udv {L : List Box} {i : Nat} {x y : Box} (k : Nat) : hset (hadd (hset H i y) L) (H.length + k) x = hadd (hset H i y) (L.set k x) := by
  have := u67 (H := hset H i y) (L := L) (x := x) k
  rwa [u8d] at this
theorem ues {L : List Box} {i : Nat} {x y : Box} : hset (hadd (hset H i y) L) H.length x = hadd (hset H i y) (L.set 0 x) := udv 0
theorem uc0 {L : List Box} {i j : Nat} {y : Box} (h : i < H.length) : hget (hadd (hset H j y) L) i = hget (hset H j y) i := u81 (by rw [u8d]; exact h)
theorem uab {L : List Box} {i j : Nat} {x y : Box} (h : i < H.length) : hset (hadd (hset H j y) L) i x = hadd (hset (hset H j y) i x) L := ucn (by rw [u8d]; exact h)
theorem get_lt {i : Nat} {x : Box} (h : hget H i = some x) : i < H.length := (List.getElem?_eq_some_iff.mp h).1
theorem u1g {i : Nat} {x : Box} (h : hget H i = some x) : hset H i x = H := by
  obtain ⟨h1, h2⟩ := List.getElem?_eq_some_iff.mp h
  unfold hset; subst h2; exact List.set_getElem_self h1
theorem w_i64 (h : -9223372036854775808 ≤ n ∧ n ≤ 9223372036854775807) : IntKind.i64.wrap n = n := by rw [IntKind.wrap_i64]; omega
theorem w_u64 (h : 0 ≤ n ∧ n ≤ 18446744073709551615) : IntKind.u64.wrap n = n := by simp only [IntKind.wrap, IntKind.signed, IntKind.bits]; simp; omega
theorem w_u8 (h : 0 ≤ n ∧ n ≤ 255) : IntKind.u8.wrap n = n := by rw [IntKind.wrap_u8]; omega
theorem w_u32 (h : 0 ≤ n ∧ n ≤ 4294967295) : IntKind.u32.wrap n = n := by rw [IntKind.wrap_u32]; omega
theorem w_i32 (h : -2147483648 ≤ n ∧ n ≤ 2147483647) : IntKind.i32.wrap n = n := by rw [IntKind.wrap_i32]; omega
theorem u6t (h : 0 ≤ b) : bi .shl ek (.int k a) (.int j b) = M.pure (.int k (k.wrap (a * 2 ^ shiftN k b))) := by
  have : ¬ b < 0 := by omega
  simp [bi, this]
theorem u85 (h : 0 ≤ b) : bi .shr ek (.int k a) (.int j b) = M.pure (.int k (a.fdiv (2 ^ shiftN k b))) := by
  have : ¬ b < 0 := by omega
  simp [bi, this]
theorem usb (h : b ≠ 0) : bi .quo ek (.int k a) (.int k b) = M.pure (.int k (k.wrap (a.tdiv b))) := by
  have h' : (b == 0) = false := by simpa using h
  cases k <;> simp [bi, intOp, h']
theorem use (h : b ≠ 0) : bi .rem ek (.int k a) (.int k b) = M.pure (.int k (a.tmod b)) := by
  have h' : (b == 0) = false := by simpa using h
  cases k <;> simp [bi, intOp, h']
theorem u6v : bi .and ek (.int k a) (.int k b) = M.pure (.int k (k.wrap (BitVec.ofInt k.bits a &&& BitVec.ofInt k.bits b).toNat)) := by cases k <;> rfl
theorem run_or : bi .or ek (.int k a) (.int k b) = M.pure (.int k (k.wrap (BitVec.ofInt k.bits a ||| BitVec.ofInt k.bits b).toNat)) := by cases k <;> rfl
def iaR (H : Heap) : Option PV → Option (Out PV)
  | some x => some (.ok (.elem x.cells) H)
  | none => none
theorem uoo {x : PV} : iaR H (some x) = some (.ok (.elem x.cells) H) := nrfl rfl
theorem ulz {o z : Bool} {sz : Nat} {xs : List PV} (h0 : 0 ≤ n) : run (iaS sz (.slice o z sz xs) (.int k n)) H = iaR H xs[n.toNat]? := by
  unfold iaS iaR run
  have h' : decide (0 ≤ n) = true := by simpa using h0
  simp only [h', beq_self_eq_true, Bool.and_self, cond_true, u41, M.fail, M.pure]
  split <;> rename_i h <;> simp only [h] <;> rfl
theorem run_fa {off id o : Nat} : fa off (.ptr id o) = M.pure (.ptr id (o + off)) := nrfl rfl
theorem ust {off : Nat} {cs : List PV} : fa off (.elem cs) = M.pure (.elem (cs.drop off)) := nrfl rfl
theorem uaf {P : Program} {C : CallT} {f : FuncId} {u v args : List PV} : callV P C (.fn f u v) args = C f (u ++ args ++ v) := nrfl rfl
theorem nc_ptr {P : Program} {i o : Nat} : nc P (.ptr i o) = M.pure (.ptr i o) := nrfl rfl
theorem uqr {P : Program} {cs : List PV} : nc P (.elem cs) = M.pure (.elem cs) := nrfl rfl
theorem nc_nil {P : Program} : nc P .nil = M.pan (nilDeref P) := nrfl rfl
theorem run_mi {t : TypeId} {v : PV} : run (mi t v) H = if isVal v = true then some (.ok (.iface t (stripC v)) H) else none := by
  unfold run mi
  cases isVal v <;> rfl
theorem run_pn {t : TypeId} {v : PV} : pn (.iface t v) = M.pan (.iface t v) := nrfl rfl
theorem ur2 {o : Bool} : cv (.int k) o (.int j n) = M.pure (.int k (k.wrap n)) := nrfl rfl
theorem uqf {v : PV} {r : List PV} : ex 0 (.tup (v :: r)) = M.pure v := nrfl rfl
theorem usu {u v : PV} {r : List PV} : ex 1 (.tup (u :: v :: r)) = M.pure v := nrfl rfl
theorem usg {u v x : PV} {r : List PV} : ex 2 (.tup (u :: v :: x :: r)) = M.pure x := nrfl rfl
theorem uo8 {v : PV} {r : List PV} : tupDrop 0 (.tup (v :: r)) = .tup (stripC v :: r) := nrfl rfl
theorem uno {u v : PV} {r : List PV} : tupDrop 1 (.tup (u :: v :: r)) = .tup (u :: stripC v :: r) := nrfl rfl
theorem unq {u v x : PV} {r : List PV} : tupDrop 2 (.tup (u :: v :: x :: r)) = .tup (u :: v :: stripC x :: r) := nrfl rfl
section
variable {c d : Bool} {s : ByteArray} {i o : Nat} {cs ds : List PV} {N : Nat}
theorem ukf : isTup (.int k n) = false := nrfl rfl
theorem ugh : isCell (.int k n) = true := nrfl rfl
theorem ukt : isVal (.int k n) = true := nrfl rfl
theorem uju : isPtr (.int k n) = false := nrfl rfl
theorem uic : PV.cells (.int k n) = [(.int k n)] := nrfl rfl
theorem u8c : PV.low N (.int k n) = true := by simp only [PV.low]
theorem uh4 : isTup (.bool c) = false := nrfl rfl
theorem uft : isCell (.bool c) = true := nrfl rfl
theorem ugc : isVal (.bool c) = true := nrfl rfl
theorem ug7 : isPtr (.bool c) = false := nrfl rfl
theorem ugp : PV.cells (.bool c) = [(.bool c)] := nrfl rfl
theorem udq : PV.low N (.bool c) = true := by simp only [PV.low]
theorem uj8 : isTup (.str s) = false := nrfl rfl
theorem ugm : isCell (.str s) = true := nrfl rfl
theorem uid : isVal (.str s) = true := nrfl rfl
theorem ujt : isPtr (.str s) = false := nrfl rfl
theorem uik : PV.cells (.str s) = [(.str s)] := nrfl rfl
theorem um3 : PV.low N (.str s) = true := by simp only [PV.low]
theorem ukj : isTup .nil = false := nrfl rfl
theorem ugf : isCell .nil = true := nrfl rfl
theorem ujq : isVal .nil = true := nrfl rfl
theorem uka : isPtr .nil = false := nrfl rfl
theorem ujs : PV.cells .nil = [.nil] := nrfl rfl
theorem utf : PV.low N .nil = true := by simp only [PV.low]
theorem uki : isTup (.ptr i o) = false := nrfl rfl
theorem uh5 : isCell (.ptr i o) = true := nrfl rfl
theorem uj3 : isVal (.ptr i o) = true := nrfl rfl
theorem ujz : isPtr (.ptr i o) = true := nrfl rfl
theorem ukn : PV.cells (.ptr i o) = [(.ptr i o)] := nrfl rfl
theorem usq : PV.low N (.ptr i o) = decide (i < N) := by simp only [PV.low]
theorem uhb : isTup (.elem cs) = false := nrfl rfl
theorem uee : isCell (.elem cs) = true := nrfl rfl
theorem ug6 : isVal (.elem cs) = true := nrfl rfl
theorem ugw : isPtr (.elem cs) = false := nrfl rfl
theorem uge : PV.cells (.elem cs) = [(.elem cs)] := nrfl rfl
theorem un6 : PV.low N (.elem cs) = true := by simp only [PV.low]
theorem ufc : isTup (.slice c d i cs) = false := nrfl rfl
theorem udb : isCell (.slice c d i cs) = true := nrfl rfl
theorem ufp : isVal (.slice c d i cs) = true := nrfl rfl
theorem ufj : isPtr (.slice c d i cs) = false := nrfl rfl
theorem uea : PV.cells (.slice c d i cs) = [(.slice c d i cs)] := nrfl rfl
theorem uip : PV.low N (.slice c d i cs) = true := by simp only [PV.low]
theorem uoi : isTup (.fn i cs ds) = false := nrfl rfl
theorem ujg : isCell (.fn i cs ds) = true := nrfl rfl
theorem umq : isVal (.fn i cs ds) = true := nrfl rfl
theorem un3 : isPtr (.fn i cs ds) = false := nrfl rfl
theorem uom : PV.cells (.fn i cs ds) = [(.fn i cs ds)] := nrfl rfl
theorem low_fn : PV.low N (.fn i cs ds) = (lowL N cs && lowL N ds) := by simp only [PV.low]
theorem ufe : isTup .nilfn = false := nrfl rfl
theorem ud9 : isCell .nilfn = true := nrfl rfl
theorem ufd : isVal .nilfn = true := nrfl rfl
theorem uf3 : isPtr .nilfn = false := nrfl rfl
theorem ufm : PV.cells .nilfn = [.nilfn] := nrfl rfl
theorem uih : PV.low N .nilfn = true := by simp only [PV.low]
theorem ufy : isTup (.iface i x) = false := nrfl rfl
theorem ud8 : isCell (.iface i x) = true := nrfl rfl
theorem uem : isVal (.iface i x) = true := nrfl rfl
theorem uek : isPtr (.iface i x) = false := nrfl rfl
theorem uef : PV.cells (.iface i x) = [(.iface i x)] := nrfl rfl
theorem ubz : PV.low N (.iface i x) = x.low N := by simp only [PV.low]
theorem uaz : isTup .niliface = false := nrfl rfl
theorem u9e : isCell .niliface = true := nrfl rfl
theorem ub5 : isVal .niliface = true := nrfl rfl
theorem ub6 : isPtr .niliface = false := nrfl rfl
theorem ub1 : PV.cells .niliface = [.niliface] := nrfl rfl
theorem udg : PV.low N .niliface = true := by simp only [PV.low]
theorem uin : isTup (.agg cs) = false := nrfl rfl
theorem ugb : isCell (.agg cs) = false := nrfl rfl
theorem uk6 : isVal (.agg cs) = true := nrfl rfl
theorem uk4 : isPtr (.agg cs) = false := nrfl rfl
theorem uig : PV.cells (.agg cs) = cs := nrfl rfl
theorem uex : PV.low N (.agg cs) = lowL N cs := by simp only [PV.low]
theorem ukk : isTup (.tup cs) = true := nrfl rfl
theorem ug8 : isCell (.tup cs) = false := nrfl rfl
theorem uiy : isVal (.tup cs) = false := nrfl rfl
theorem uib : isPtr (.tup cs) = false := nrfl rfl
theorem uio : PV.cells (.tup cs) = [(.tup cs)] := nrfl rfl
theorem ub9 : PV.low N (.tup cs) = lowL N cs := by simp only [PV.low]
theorem ufw : isTup .undef = false := nrfl rfl
theorem ud4 : isCell .undef = false := nrfl rfl
theorem uff : isVal .undef = false := nrfl rfl
theorem ufq : isPtr .undef = false := nrfl rfl
theorem ueq : PV.cells .undef = [.undef] := nrfl rfl
theorem uk2 : PV.low N .undef = true := by simp only [PV.low]
end
theorem u6d {n : Nat} : lowL n [] = true := by simp only [lowL]
theorem u54 {n : Nat} {v : PV} {r : List PV} : lowL n (v :: r) = (v.low n && lowL n r) := by simp only [lowL]
def bdR (H : Heap) : Option (List PV) → Option (Out PV)
  | some cs => some (.ok (.agg cs) H)
  | none => none
theorem un4 {cs : List PV} : bdR H (some cs) = some (.ok (.agg cs) H) := nrfl rfl
theorem run_bd {zero : List PV} {parts : List (Nat × Nat × PV)} : run (bd zero parts) H = bdR H (u5o parts zero) := by
  unfold run bd bdR
  cases u5o parts zero <;> rfl
theorem ufi {cs : List PV} : u5o [] cs = some cs := nrfl rfl
theorem udc {off size : Nat} {v : PV} {r : List (Nat × Nat × PV)} {cs : List PV} : u5o ((off, size, v) :: r) cs = if v.cells.length = size ∧ off + size ≤ cs.length ∧ v.cells.all isCell = true then u5o r (fillAt off (v.cells.map stripC) cs) else none := by
  show (bif v.cells.length == size && (decide (off + size ≤ cs.length) && v.cells.all isCell) then u5o r (fillAt off (v.cells.map stripC) cs) else none) = _
  cases hb : v.cells.all isCell <;> by_cases h1 : v.cells.length = size <;> by_cases h2 : off + size ≤ cs.length <;> simp [h1, h2, hb, ub3 (v.cells.length) size]
theorem uko {off : Nat} {vs cs : List PV} : fillAt off vs cs = cs.take off ++ vs ++ cs.drop (off + vs.length) := nrfl rfl
def bsR (own : Bool) (a : Option Nat) (vs : List PV) (H : Heap) : Option (Out PV) := if vs.all (u2f a) = true then some (.ok (.slice own false (a.getD 1) vs) H) else none
theorem run_bs {own : Bool} {a : Option Nat} {vs : List PV} : run (bs own a vs) H = bsR own a (vs.map stripC) H := by
  unfold run bs bsR
  cases ((vs.map stripC).all (u2f a)) <;> rfl
def noPanR : Option (Out PV) → Option (Out PV)
  | some (.ok v H) => some (.ok v H)
  | _ => none
theorem uf0 {m : M PV} : run (noPan m) H = noPanR (run m H) := by
  unfold run noPan noPanR
  cases m H with
  | none => rfl
  | some q => cases q <;> rfl
theorem uie {v : PV} {H : Heap} : noPanR (some (.ok v H)) = some (.ok v H) := nrfl rfl
theorem uh3 {v : PV} {H : Heap} : noPanR (some (.pan v H)) = none := nrfl rfl
theorem uey : noPanR none = none := nrfl rfl
theorem ugn {c : Prop} [Decidable c] {r r' : Option (Out PV)} : noPanR (if c then r else r') = if c then noPanR r else noPanR r' := by split <;> rfl
noncomputable def chkR (r r' : Option (Out α)) (x : M β) (H : Heap) : Option (Out β) := run (chk (fun _ => r) (fun _ => r') x) H
@[congr] theorem ux2 {r r' s s' : Option (Out α)} {x : M β} (h : r = s) (h' : r' = s') : chkR r r' x H = chkR s s' x H := by rw [h, h']
theorem uqk {m m' : M α} {x : M β} : run (chk m m' x) H = chkR (run m H) (run m' H) x H := nrfl rfl
theorem um4 {a : α} {K : Heap} {x : M β} : chkR (some (.ok a K)) (some (.ok a K)) x H = run x H := by
  simp [chkR, run, chk]
theorem utk {i o : Nat} : tld (.ptr i o) = .ld i := nrfl rfl
theorem us2 {i o : Nat} : tst (.ptr i o) = .st i := nrfl rfl
theorem un2 {cs : List PV} : tld (.elem cs) = .no := nrfl rfl
theorem uns {x : Touch} : clash .no x = false := nrfl rfl
theorem uif {y : Touch} : clash y .no = false := by cases y <;> rfl
theorem ufz {i j : Nat} : clash (.ld i) (.ld j) = false := nrfl rfl
theorem uew {i j : Nat} : clash (.ld j) (.st i) = (i == j) := nrfl rfl
theorem ufx {i j : Nat} : clash (.st j) (.ld i) = (i == j) := nrfl rfl
theorem uf8 {i j : Nat} : clash (.st j) (.st i) = (i == j) := nrfl rfl
theorem ud5 {i : Nat} : clash .any (.ld i) = false := nrfl rfl
theorem ude {i : Nat} : clash (.ld i) .any = false := nrfl rfl
theorem ubu : clash .any .any = false := nrfl rfl
def defR (CD : Option PV → CallT) (f : FuncId) (args : List PV) (res : M PV) : Option (Out PV) → Option (Out PV)
  | none => none
  | some (.ok _ H) => bindR (run (CD none f args) H) (fun _ => res)
  | some (.pan v H) => bindR (run (CD (some v) f args) H) (fun r => match r with | .tup [] => res | _ => M.fail)
theorem uj4 {CD : Option PV → CallT} {f : FuncId} {u v args : List PV} {rest res : M PV} : run (deferM CD (.fn f u v) args rest res) H = defR CD f (u ++ args ++ v) res (run rest H) := by
  unfold run deferM defR
  dsimp only
  cases rest H with
  | none => rfl
  | some q => cases q <;> rfl
@[congr] theorem ux0 {CD : Option PV → CallT} {f : FuncId} {args : List PV} {res : M PV} {r r' : Option (Out PV)} (h : r = r') : defR CD f args res r = defR CD f args res r' := by rw [h]
theorem ukg {CD : Option PV → CallT} {f : FuncId} {args : List PV} {res : M PV} : defR CD f args res none = none := nrfl rfl
theorem url {CD : Option PV → CallT} {f : FuncId} {args : List PV} {res : M PV} {v : PV} : defR CD f args res (some (.ok v H)) = bindR (run (CD none f args) H) (fun _ => res) := nrfl rfl
theorem uo5 {CD : Option PV → CallT} {f : FuncId} {args : List PV} {res : M PV} {v : PV} : defR CD f args res (some (.pan v H)) = bindR (run (CD (some v) f args) H) (fun r => match r with | .tup [] => res | _ => M.fail) := nrfl rfl
theorem uml {CD : Option PV → CallT} {f : FuncId} {args : List PV} {res : M PV} {c : Prop} [Decidable c] {r r' : Option (Out PV)} : defR CD f args res (if c then r else r') = if c then defR CD f args res r else defR CD f args res r' := by split <;> rfl
end Go.Proofs.YthnmienjiangkaaGreatDoor.Pi
namespace Go.Proofs.YthnmienjiangkaaGreatDoor.Pi
def byt (c : UInt8) : PV := .int .u8 c.toNat
abbrev bytes (b : List UInt8) : List PV := b.map byt
abbrev BS (z : Bool) (b : List UInt8) : PV := .slice false z 1 (bytes b)
theorem ucy {b : List UInt8} {k : Nat} (h : k < b.length) : (bytes b)[k]? = some (byt b[k]) := by simp [bytes, h]
theorem byt_lt (c : UInt8) : c.toNat < 256 := c.toNat_lt
theorem uso (n s x : Nat) (hn : n < 2 ^ s) : n ||| (x * 2 ^ s) = n + x * 2 ^ s := by
  rw [Nat.or_comm, Nat.mul_comm, ← Nat.two_pow_add_eq_or_of_lt hn, Nat.add_comm]
theorem bv_or {w a b : Nat} (ha : a < 2 ^ w) (hb : b < 2 ^ w) : (BitVec.ofInt w (a : Int) ||| BitVec.ofInt w (b : Int)).toNat = a ||| b := by
  rw [BitVec.toNat_or, BitVec.ofInt_natCast, BitVec.ofInt_natCast, BitVec.toNat_ofNat, BitVec.toNat_ofNat, Nat.mod_eq_of_lt ha, Nat.mod_eq_of_lt hb]
theorem bv_and {w a b : Nat} (ha : a < 2 ^ w) (hb : b < 2 ^ w) : (BitVec.ofInt w (a : Int) &&& BitVec.ofInt w (b : Int)).toNat = a &&& b := by
  rw [BitVec.toNat_and, BitVec.ofInt_natCast, BitVec.ofInt_natCast, BitVec.toNat_ofNat, BitVec.toNat_ofNat, Nat.mod_eq_of_lt ha, Nat.mod_eq_of_lt hb]
theorem and127 (a : Nat) (ha : a < 256) : IntKind.u8.wrap ((BitVec.ofInt IntKind.u8.bits (a : Int) &&& BitVec.ofInt IntKind.u8.bits 127).toNat : Int) = ((a % 128 : Nat) : Int) := by
  have e : (127 : Int) = ((127 : Nat) : Int) := rfl
  have h := bv_and (w := 8) (a := a) (b := 127) ha (by decide)
  rw [show IntKind.u8.bits = 8 from rfl, e, h, Nat.and_two_pow_sub_one_eq_mod a 7]
  exact w_u8 (by omega)
theorem ucq {s : Nat} (h : s ≤ 64) : shiftN .u64 (s : Int) = s := by unfold shiftN; rw [Int.toNat_natCast]; exact Nat.min_eq_left h
theorem uae {s : Nat} (h : s ≤ 64) : shiftN .i64 (s : Int) = s := by unfold shiftN; rw [Int.toNat_natCast]; exact Nat.min_eq_left h
theorem urg {s : Nat} (h : s ≤ 8) : shiftN .u8 (s : Int) = s := by unfold shiftN; rw [Int.toNat_natCast]; exact Nat.min_eq_left h
theorem shr_u8 (c : Nat) {s : Nat} (h : s ≤ 8) : (c : Int).fdiv (2 ^ shiftN .u8 (s : Int)) = ((c / 2 ^ s : Nat) : Int) := by
  rw [urg h, Int.fdiv_eq_ediv_of_nonneg _ (Int.le_of_lt (Int.pow_pos (by omega)))]
  simp
theorem uhw {n x s : Nat} (hs : s ≤ 63) (hn : n < 2 ^ s) (hx : x * 2 ^ s < 2 ^ 64) :
    IntKind.u64.wrap ((BitVec.ofInt IntKind.u64.bits (n : Int) ||| BitVec.ofInt IntKind.u64.bits (IntKind.u64.wrap ((x : Int) * 2 ^ shiftN .u64 (s : Int)))).toNat : Int) = ((n + x * 2 ^ s : Nat) : Int) ∧ n + x * 2 ^ s < 2 ^ 64 := by
  have e1 : ((x : Int) * 2 ^ shiftN .u64 (s : Int)) = ((x * 2 ^ s : Nat) : Int) := by rw [ucq (by omega)]; simp
  have hle : 2 ^ s ≤ 2 ^ 63 := Nat.pow_le_pow_right (by omega) hs
  have hlt : n + x * 2 ^ s < 2 ^ 64 := by
    have e : (2 : Nat) ^ 64 = 2 ^ (64 - s) * 2 ^ s := by rw [← Nat.pow_add, Nat.sub_add_cancel (by omega)]
    rw [e] at hx ⊢
    have hx2 : x < 2 ^ (64 - s) := Nat.lt_of_mul_lt_mul_right hx
    have : (x + 1) * 2 ^ s ≤ 2 ^ (64 - s) * 2 ^ s := Nat.mul_le_mul_right _ hx2
    rw [Nat.add_mul] at this
    omega
  refine ⟨?_, hlt⟩
  rw [e1, w_u64 (n := ((x * 2 ^ s : Nat) : Int)) (by omega), show IntKind.u64.bits = 64 from rfl, bv_or (w := 64) (by omega) hx, uso n s x hn]
  exact w_u64 (by omega)
inductive Rs (α : Type) where
  | ok (v : α) (p : Nat)
  | err (p e : Nat)
def lebU (b : List UInt8) (B e : Nat) : Nat → Nat → Nat → Nat → Rs Nat
  | 0, _, _, p => .err p 4
  | f + 1, i, n, p =>
    if p < e then
      let c := (b.getD p 0).toNat
      if B < 7 * i + 7 ∧ c / 2 ^ (B - 7 * i) ≠ 0 then .err p 4
      else if c < 128 then .ok (n + c * 2 ^ (7 * i)) (p + 1)
      else lebU b B e f (i + 1) (n + c % 128 * 2 ^ (7 * i)) (p + 1)
    else .err e 3
end Go.Proofs.YthnmienjiangkaaGreatDoor.Pi
namespace Go.Proofs.YthnmienjiangkaaGreatDoor.Pi
theorem wi (x : Int) : IntKind.i64.wrap x = (x + 9223372036854775808) % 18446744073709551616 - 9223372036854775808 := by rw [IntKind.wrap_i64]
theorem ul7 (x : Int) : IntKind.i64.wrap x % 18446744073709551616 = x % 18446744073709551616 := by rw [wi]; omega
theorem umz {x y : Int} (h : x % 18446744073709551616 = y % 18446744073709551616) : IntKind.i64.wrap x = IntKind.i64.wrap y := by rw [wi, wi]; omega
theorem ugi (a : Int) : BitVec.ofInt 64 (a % 18446744073709551616) = BitVec.ofInt 64 a := by
  apply BitVec.eq_of_toNat_eq
  rw [BitVec.toNat_ofInt, BitVec.toNat_ofInt]
  have e : ((2 ^ 64 : Nat) : Int) = 18446744073709551616 := rfl
  rw [e, Int.emod_emod_of_dvd _ (Int.dvd_refl _)]
def or64 (a b : Int) : Int := ((BitVec.ofInt 64 a ||| BitVec.ofInt 64 b).toNat : Int)
theorem uqg (a b : Int) : or64 (a % 18446744073709551616) (b % 18446744073709551616) = or64 a b := by unfold or64; rw [ugi, ugi]
theorem pow64 {s : Nat} (h : s ≤ 64) : (18446744073709551616 : Int) = 2 ^ (64 - s) * 2 ^ s := by
  rw [← Int.pow_add, Nat.sub_add_cancel h]; rfl
theorem ue5 (x : Int) {s : Nat} (h : s ≤ 64) : (x * 2 ^ s) % 18446744073709551616 = (x % 2 ^ (64 - s)) * 2 ^ s := by
  rw [pow64 h, Int.mul_comm x, Int.mul_comm (2 ^ (64 - s)), Int.mul_emod_mul_of_pos _ _ (Int.pow_pos (by omega)), Int.mul_comm]
theorem unp {N x : Int} {s : Nat} (hs : s ≤ 63) (h0 : 0 ≤ N) (h1 : N < 2 ^ s) : IntKind.i64.wrap (or64 (IntKind.i64.wrap N) (IntKind.i64.wrap (x * 2 ^ s))) = IntKind.i64.wrap (N + x * 2 ^ s) := by
  have hq : (0 : Int) < 2 ^ s := Int.pow_pos (by omega)
  have hr : (0 : Int) < 2 ^ (64 - s) := Int.pow_pos (by omega)
  have hp := pow64 (show s ≤ 64 by omega)
  have hle : (2 : Int) ^ s ≤ 18446744073709551616 := by
    have h4 : 1 * (2 : Int) ^ s ≤ 2 ^ (64 - s) * 2 ^ s := Int.mul_le_mul_of_nonneg_right (by omega) (by omega)
    omega
  have hm0 := Int.emod_nonneg x (show (2 : Int) ^ (64 - s) ≠ 0 by omega)
  have hm1 := Int.emod_lt_of_pos x hr
  have hN : N % 18446744073709551616 = N := by omega
  obtain ⟨a, rfl⟩ := Int.eq_ofNat_of_zero_le h0
  obtain ⟨m, hm⟩ := Int.eq_ofNat_of_zero_le hm0
  have ha : a < 2 ^ s := by
    have h2 : ((a : Nat) : Int) < ((2 ^ s : Nat) : Int) := by simpa using h1
    exact Int.ofNat_lt.1 h2
  have e2 : ((m : Int) * 2 ^ s) = ((m * 2 ^ s : Nat) : Int) := by simp
  have hb : m * 2 ^ s < 2 ^ 64 := by
    have h2 : (x % 2 ^ (64 - s) + 1) * 2 ^ s ≤ 2 ^ (64 - s) * 2 ^ s := Int.mul_le_mul_of_nonneg_right (by omega) (by omega)
    rw [← hp, Int.add_mul, hm, e2] at h2
    omega
  have hj := uhw (n := a) (x := m) hs ha hb
  rw [← uqg, ul7, ul7, hN, ue5 x (by omega), hm, e2]
  unfold or64
  have hsz : ((2 : Nat) ^ s) ≤ 2 ^ 64 := Nat.pow_le_pow_right (by omega) (by omega)
  rw [bv_or (w := 64) (by omega) hb, uso a s m ha]
  apply umz
  rw [Int.add_emod, ue5 x (by omega), hm, e2]
  have := hj.2
  omega
def okS (h c : Nat) : Prop := c < 128 ∧ (c / 2 ^ (h - 1) = 0 ∨ c / 2 ^ (h - 1) = 2 ^ (8 - h) - 1)
instance (h c : Nat) : Decidable (okS h c) := by unfold okS; infer_instance
theorem uwj (n : Int) : IntKind.i8.wrap n = (n + 128) % 256 - 128 := by
  have h : IntKind.i8.wrap n = if 128 ≤ n % 256 then n % 256 - 256 else n % 256 := by
    simp [IntKind.wrap, IntKind.bits, IntKind.signed]
  rw [h]; split <;> omega
theorem uve (n : Int) : IntKind.u8.wrap n = n % 256 := by
  simp [IntKind.wrap, IntKind.bits, IntKind.signed]
theorem top_ok {h : Nat} (hh : h = 1 ∨ h = 4 ∨ h = 5) {c : Nat} (c1 : c < 128) :
    ((IntKind.i8.wrap (IntKind.u8.wrap ((c : Int) * 2 ^ shiftN .u8 1))).fdiv (2 ^ shiftN .i8 (h : Int)) = 0 ∨ (IntKind.i8.wrap (IntKind.u8.wrap ((c : Int) * 2 ^ shiftN .u8 1))).fdiv (2 ^ shiftN .i8 (h : Int)) = -1) ↔ okS h c := by
  have e1 : ((c : Int) * 2 ^ shiftN .u8 1) = (c : Int) * 2 := rfl
  have e2 : shiftN .i8 (h : Int) = h := by unfold shiftN; rw [Int.toNat_natCast]; exact Nat.min_eq_left (by show h ≤ 8; omega)
  rw [uwj, uve, e1, e2, Int.fdiv_eq_ediv_of_nonneg _ (Int.le_of_lt (Int.pow_pos (by omega)))]
  unfold okS
  rcases hh with rfl | rfl | rfl
  · show ((((c * 2 : Int) % 256 + 128) % 256 - 128) / 2 ^ 1 = 0 ∨ (((c * 2 : Int) % 256 + 128) % 256 - 128) / 2 ^ 1 = -1) ↔ (c < 128 ∧ (c / 2 ^ 0 = 0 ∨ c / 2 ^ 0 = 2 ^ 7 - 1))
    omega
  · show ((((c * 2 : Int) % 256 + 128) % 256 - 128) / 2 ^ 4 = 0 ∨ (((c * 2 : Int) % 256 + 128) % 256 - 128) / 2 ^ 4 = -1) ↔ (c < 128 ∧ (c / 2 ^ 3 = 0 ∨ c / 2 ^ 3 = 2 ^ 4 - 1))
    omega
  · show ((((c * 2 : Int) % 256 + 128) % 256 - 128) / 2 ^ 5 = 0 ∨ (((c * 2 : Int) % 256 + 128) % 256 - 128) / 2 ^ 5 = -1) ↔ (c < 128 ∧ (c / 2 ^ 4 = 0 ∨ c / 2 ^ 4 = 2 ^ 3 - 1))
    omega
theorem and64 (a : Nat) (ha : a < 128) : IntKind.u8.wrap ((BitVec.ofInt IntKind.u8.bits (a : Int) &&& BitVec.ofInt IntKind.u8.bits 64).toNat : Int) = if a < 64 then 0 else 64 := by
  have e : (64 : Int) = ((64 : Nat) : Int) := rfl
  have h := bv_and (w := 8) (a := a) (b := 64) (by omega) (by decide)
  have h2 : ∀ y, y < 128 → y &&& 64 = if y < 64 then 0 else 64 := by decide +kernel
  rw [show IntKind.u8.bits = 8 from rfl, e, h, h2 a ha]
  split <;> rfl
def lastS (c s : Nat) : Int := (if c < 64 then (c : Int) else (c : Int) - 128) * 2 ^ s
def lebS (b : List UInt8) (B e : Nat) : Nat → Nat → Nat → Nat → Rs Int
  | 0, _, _, p => .err p 4
  | f + 1, i, n, p =>
    if p < e then
      let c := (b.getD p 0).toNat
      if B < 7 * i + 7 ∧ ¬ okS (B - 7 * i) c then .err p 4
      else if c < 128 then .ok (IntKind.i64.wrap (n + lastS c (7 * i))) (p + 1)
      else lebS b B e f (i + 1) (n + c % 128 * 2 ^ (7 * i)) (p + 1)
    else .err e 3
def rdS (b : List UInt8) (B e p : Nat) : Rs Int := lebS b B e 10 0 0 p
end Go.Proofs.YthnmienjiangkaaGreatDoor.Pi
namespace Go.Proofs.YthnmienjiangkaaGreatDoor.Pi
open Go.ChangeShapes Go.WideShapes
def imOf (w : World) (b o : Nat) : Option Value := w.cell? ⟨b, o, none⟩
theorem imOf_ok (w : World) : ∀ b o v, imOf w b o = some v → w.cell? ⟨b, o, none⟩ = some v := fun _ _ _ h => h
def ua7 (zs : List Int) : List UInt8 := zs.map fun n => UInt8.ofNat n.toNat
theorem wf_u8 {n : Int} (h : (Lit.int .u8 n).wf = true) : 0 ≤ n ∧ n < 256 := by
  simp [Lit.wf, IntKind.min, IntKind.max, IntKind.bits, IntKind.signed] at h
  omega
theorem usk {P : Program} {w : World} {base : Nat} {t e : TypeId} {a : Addr} {len cap : Nat} (ht : P.underlying t = some (.slice e)) (h : Value.okWide P w .any base t (.slice (some a) len cap)) : a.spot = none := by
  unfold Value.okWide at h
  simp only [ht] at h
  unfold Cell.okWide at h
  simp only [ht] at h
  unfold Cell.ok at h
  simp only [ht] at h
  exact h.2.2.2.1
theorem open_bytes {H : Type} {enc : TypeId × Value → H} {P : Program} {W : World} {base : Nat} {spare : Nat → Bool} {held : Bool} {t e : TypeId} {v : Value} {d : DataW H} {ps : List MemPlace} {ts : List TypeId} {ds : List (DataW H)} {j : Nat}
    (hsz : (DataW.weightsEach P ts ds).all (· ≤ reachBytes) = true) (htj : ts[j]? = some t) (hd : ds[j]? = some d) (hu : P.underlying t = some (.slice e)) (he : P.underlying e = some (.int .u8)) (hc : P.cellsOf e = 1) (hB : P.bytesOf e = 1)
    (hok : Value.okWide P W .any base t v) {b0 : Nat} (h : DataW.Trod enc P W b0 spare held t v d ps) :
    ∃ z b, b.length ≤ 140737488351232 ∧ Rep [] (imOf W) (BS z b) v ∧ ∀ x ∈ ps, x.block < W.heap.size := by
  obtain ⟨a, len, cap, rfl⟩ := okWide_slice hu hok
  have k := h
  have lt : ∀ x ∈ ps, x.block < W.heap.size := by obtain ⟨m, hm⟩ := k; exact DataW.trod_lt m _ _ _ hm
  obtain ⟨fuel, hf⟩ := h
  rcases open_ints hu he hc hf with ⟨hcs, _⟩ | ⟨x, l, c, zs, hcs, _, hl, hm, hz, hx, hcell, hwz⟩
  · simp [Value.cells] at hcs
    obtain ⟨rfl, rfl, rfl⟩ := hcs
    exact ⟨true, [], by simp, .flat (.snil 1), lt⟩
  · simp [Value.cells] at hcs
    obtain ⟨rfl, rfl, rfl⟩ := hcs
    have hsp := usk hu hok
    obtain ⟨g, o, sp⟩ := x
    obtain rfl : sp = none := hsp
    have hlz : len ≤ zs.length := by rw [hz]; split <;> omega
    refine ⟨false, ua7 (zs.take len), ?_, ?_, lt⟩
    · obtain ⟨hx, _⟩ := Prod.mk.inj hx
      subst hx
      have z := sized_slice hsz htj hd hu
      rw [hB] at z
      have h1 : (lits (H := H) .u8 (zs.take len)).length + (lits (H := H) .u8 (zs.drop len)).length = zs.length := by
        simp [lits]
        omega
      rw [h1] at z
      simp only [ua7, List.length_map, List.length_take]
      have : reachBytes = 140737488351232 := rfl
      omega
    · have hln : (bytes (ua7 (zs.take len))).length = len := by simp [bytes, ua7, hlz]
      have hget : ∀ (i : Nat) (x : PV), (bytes (ua7 (zs.take len)))[i]? = some x → i < len ∧ x = .int .u8 (zs.getD i 0) := by
        intro i x hx
        have hi : i < len := by
          have := (List.getElem?_eq_some_iff.mp hx).1
          omega
        refine ⟨hi, ?_⟩
        have hiz : i < zs.length := by omega
        have e1 : (bytes (ua7 (zs.take len)))[i]? = some (byt (UInt8.ofNat (zs[i]).toNat)) := by
          simp [bytes, ua7, hi, hiz]
        rw [e1] at hx
        obtain rfl := Option.some.inj hx
        have hw := wf_u8 (hwz _ (List.getElem_mem hiz))
        have e2 : zs.getD i 0 = zs[i] := by simp [List.getD, hiz]
        rw [e2]
        unfold byt
        congr 1
        have : (UInt8.ofNat (zs[i]).toNat).toNat = (zs[i]).toNat := by
          rw [UInt8.toNat_ofNat']
          omega
        rw [this]
        omega
      have hadd : ∀ i : Nat, i < len → W.cell? ⟨g, o + i, none⟩ = some (.int .u8 (zs.getD i 0)) := by
        intro i hi
        have := hcell i (by omega)
        unfold Addr.add at this
        split at this
        · rename_i h0
          subst h0
          simpa using this
        · exact this
      have hrep := RepF.slice (im := imOf W) (g := g) (o := o) (cap := cap) (sz := 1) (xs := bytes (ua7 (zs.take len))) (fun i _ => .int .u8 (zs.getD i 0)) (.inl rfl) (by omega)
        (fun i x hx => by rw [(hget i x hx).2]; rfl)
        (fun i x j c hx hc => by
          obtain ⟨hi, rfl⟩ := hget i x hx
          have hj : j = 0 := by
            have := (List.getElem?_eq_some_iff.mp hc).1
            simp [PV.cells] at this
            omega
          subst hj
          unfold imOf
          simpa using hadd i hi)
        (fun i x j c hx hc => by
          obtain ⟨hi, rfl⟩ := hget i x hx
          have hj : j = 0 := by
            have := (List.getElem?_eq_some_iff.mp hc).1
            simp [PV.cells] at this
            omega
          subst hj
          simp [PV.cells] at hc
          subst hc
          exact .int _ _)
      rw [hln] at hrep
      exact .flat hrep
end Go.Proofs.YthnmienjiangkaaGreatDoor.Pi
namespace Go.Proofs.YthnmienjiangkaaGreatDoor.Pi
theorem goDown : type_of% (And.intro (And.intro (And.intro (And.intro (And.intro @run_bind @unb) (And.intro @uh0 @uj1)) (And.intro (And.intro @uks
    @run_nb) (And.intro @nbR_ok @usf))) (And.intro (And.intro (And.intro @ueh @ugq) (And.intro @uf4 @uj5)) (And.intro
    (And.intro @ucx @uis) (And.intro @uon (And.intro @unt @ur8))))) (And.intro (And.intro (And.intro (And.intro @ute
    @ur9) (And.intro @run_pure @urr)) (And.intro (And.intro @uoq @uf0) (And.intro @uie @uh3))) (And.intro (And.intro
    (And.intro @uey @ugn) (And.intro @uqk @um4)) (And.intro (And.intro @uj4 @ukg) (And.intro @url (And.intro
    @uo5 @uml)))))) := (And.intro (And.intro (And.intro (And.intro (And.intro @run_bind @unb) (And.intro @uh0 @uj1)) (And.intro (And.intro @uks
    @run_nb) (And.intro @nbR_ok @usf))) (And.intro (And.intro (And.intro @ueh @ugq) (And.intro @uf4 @uj5)) (And.intro
    (And.intro @ucx @uis) (And.intro @uon (And.intro @unt @ur8))))) (And.intro (And.intro (And.intro (And.intro @ute
    @ur9) (And.intro @run_pure @urr)) (And.intro (And.intro @uoq @uf0) (And.intro @uie @uh3))) (And.intro (And.intro
    (And.intro @uey @ugn) (And.intro @uqk @um4)) (And.intro (And.intro @uj4 @ukg) (And.intro @url (And.intro
    @uo5 @uml))))))
theorem goUp : type_of% (And.intro (And.intro (And.intro (And.intro (And.intro (And.intro (And.intro @ugs (And.intro @uo3 @run_al)) (And.intro (And.intro @run_bx
    @run_ld) (And.intro @run_st @ung))) (And.intro (And.intro (And.intro @un5 @und) (And.intro @uja @ujv)) (And.intro
    (And.intro @ldB_t @ldB_f) (And.intro @stB_is @umy)))) (And.intro (And.intro (And.intro @une (And.intro @u2k @u8x)) (And.intro
    (And.intro @u81 @u67) (And.intro @umt @ucn))) (And.intro (And.intro (And.intro @u5u @set_set) (And.intro @u9q @cut0))
    (And.intro (And.intro @cut1 @cut2) (And.intro @cutA0 @cutA1))))) (And.intro (And.intro (And.intro (And.intro @cutA2 (And.intro @u6u @u8d))
    (And.intro (And.intro @w_i64 @w_u64) (And.intro @w_u8 @w_u32))) (And.intro (And.intro (And.intro @w_i32 @usb) (And.intro @use @uoo))
    (And.intro (And.intro @ulz @run_fa) (And.intro @ust @uaf)))) (And.intro (And.intro (And.intro @nc_ptr (And.intro @uqr @nc_nil))
    (And.intro (And.intro @run_mi @run_pn) (And.intro @ur2 @uqf))) (And.intro (And.intro (And.intro @usu @usg) (And.intro @uo8
    @uno)) (And.intro (And.intro @unq @ukf) (And.intro @ugh @ukt)))))) (And.intro (And.intro (And.intro (And.intro
    (And.intro @uju (And.intro @uic @u8c)) (And.intro (And.intro @uh4 @uft) (And.intro @ugc @ug7)))
    (And.intro (And.intro (And.intro @ugp @udq) (And.intro @uj8 @ugm)) (And.intro (And.intro @uid @ujt) (And.intro
    @uik @um3)))) (And.intro (And.intro (And.intro @ukj (And.intro @ugf @ujq)) (And.intro (And.intro @uka
    @ujs) (And.intro @utf @uki))) (And.intro (And.intro (And.intro @uh5 @uj3) (And.intro @ujz @ukn))
    (And.intro (And.intro @usq @uhb) (And.intro @uee @ug6))))) (And.intro (And.intro (And.intro (And.intro @ugw
    (And.intro @uge @un6)) (And.intro (And.intro @ufc @udb) (And.intro @ufp @ufj))) (And.intro (And.intro
    (And.intro @uea @uip) (And.intro @uoi @ujg)) (And.intro (And.intro @umq @un3) (And.intro @uom @low_fn))))
    (And.intro (And.intro (And.intro @ufe (And.intro @ud9 @ufd)) (And.intro (And.intro @uf3 @ufm) (And.intro
    @uih @ufy))) (And.intro (And.intro (And.intro @ud8 @uem) (And.intro @uek @uef)) (And.intro
    (And.intro @ubz @uaz) (And.intro @u9e @ub5))))))) (And.intro (And.intro (And.intro (And.intro (And.intro
    (And.intro @ub6 (And.intro @ub1 @udg)) (And.intro (And.intro @uin @ugb) (And.intro @uk6
    @uk4))) (And.intro (And.intro (And.intro @uig @uex) (And.intro @ukk @ug8)) (And.intro (And.intro @uiy
    @uib) (And.intro @uio @ub9)))) (And.intro (And.intro (And.intro @ufw (And.intro @ud4 @uff)) (And.intro
    (And.intro @ufq @ueq) (And.intro @uk2 @u6d))) (And.intro (And.intro (And.intro @u54 @un4) (And.intro @run_bd
    @ufi)) (And.intro (And.intro @udc @uko) (And.intro @run_bs @utk))))) (And.intro (And.intro (And.intro (And.intro
    @us2 (And.intro @un2 @uns)) (And.intro (And.intro @uif @ufz) (And.intro @uew @ufx))) (And.intro
    (And.intro (And.intro @uf8 @ud5) (And.intro @ude @ubu)) (And.intro (And.intro @uk9 @uh1)
    (And.intro @ukl @ueb)))) (And.intro (And.intro (And.intro @uje (And.intro @uiq @ugv)) (And.intro (And.intro
    @uke @uay) (And.intro @uf2 @unm))) (And.intro (And.intro (And.intro @ufb @ujp) (And.intro @uhd
    @uej)) (And.intro (And.intro @uhc @ud6) (And.intro @ugd @ugu)))))) (And.intro (And.intro (And.intro
    (And.intro (And.intro @uh9 (And.intro @ua0 @uda)) (And.intro (And.intro @uim @bi_add) (And.intro @bi_sub
    @bi_mul))) (And.intro (And.intro (And.intro @bi_eql @bi_neq) (And.intro @bi_lss @bi_leq)) (And.intro (And.intro @bi_gtr @bi_geq) (And.intro
    @ut2 @urt)))) (And.intro (And.intro (And.intro @uro (And.intro @urq @un_not)) (And.intro (And.intro @uiw @ur7) (And.intro
    @mx_int @mn_int))) (And.intro (And.intro (And.intro @cv_int @Bool.and_true) (And.intro @Bool.true_and @Bool.and_self)) (And.intro (And.intro
    @Bool.not_true @Bool.not_false) (And.intro @Bool.and_false @Bool.false_and))))) (And.intro (And.intro (And.intro (And.intro @Bool.or_true
    (And.intro @Bool.or_false @Bool.true_or)) (And.intro (And.intro @Bool.false_or @Bool.false_eq_true) (And.intro @decide_eq_true_eq @and_self)))
    (And.intro (And.intro (And.intro @and_true @true_and) (And.intro @not_true_eq_false @not_false_eq_true)) (And.intro (And.intro @Nat.zero_add
    @Nat.add_zero) (And.intro @Nat.le_refl @Nat.lt_add_one)))) (And.intro (And.intro (And.intro (And.intro @Nat.lt_irrefl @and_false) (And.intro
    @false_and @Bool.not_eq_true')) (And.intro (And.intro @Bool.not_eq_eq_eq_not @decide_eq_false_iff_not) (And.intro @Bool.and_eq_true
    @Bool.or_eq_true))) (And.intro (And.intro (And.intro @decide_true @decide_false) (And.intro @uc4 @uc7)) (And.intro (And.intro @udv
    @ues) (And.intro @uc0 @uab)))))))) := (And.intro (And.intro (And.intro (And.intro (And.intro (And.intro (And.intro @ugs (And.intro @uo3 @run_al)) (And.intro (And.intro @run_bx
    @run_ld) (And.intro @run_st @ung))) (And.intro (And.intro (And.intro @un5 @und) (And.intro @uja @ujv)) (And.intro
    (And.intro @ldB_t @ldB_f) (And.intro @stB_is @umy)))) (And.intro (And.intro (And.intro @une (And.intro @u2k @u8x)) (And.intro
    (And.intro @u81 @u67) (And.intro @umt @ucn))) (And.intro (And.intro (And.intro @u5u @set_set) (And.intro @u9q @cut0))
    (And.intro (And.intro @cut1 @cut2) (And.intro @cutA0 @cutA1))))) (And.intro (And.intro (And.intro (And.intro @cutA2 (And.intro @u6u @u8d))
    (And.intro (And.intro @w_i64 @w_u64) (And.intro @w_u8 @w_u32))) (And.intro (And.intro (And.intro @w_i32 @usb) (And.intro @use @uoo))
    (And.intro (And.intro @ulz @run_fa) (And.intro @ust @uaf)))) (And.intro (And.intro (And.intro @nc_ptr (And.intro @uqr @nc_nil))
    (And.intro (And.intro @run_mi @run_pn) (And.intro @ur2 @uqf))) (And.intro (And.intro (And.intro @usu @usg) (And.intro @uo8
    @uno)) (And.intro (And.intro @unq @ukf) (And.intro @ugh @ukt)))))) (And.intro (And.intro (And.intro (And.intro
    (And.intro @uju (And.intro @uic @u8c)) (And.intro (And.intro @uh4 @uft) (And.intro @ugc @ug7)))
    (And.intro (And.intro (And.intro @ugp @udq) (And.intro @uj8 @ugm)) (And.intro (And.intro @uid @ujt) (And.intro
    @uik @um3)))) (And.intro (And.intro (And.intro @ukj (And.intro @ugf @ujq)) (And.intro (And.intro @uka
    @ujs) (And.intro @utf @uki))) (And.intro (And.intro (And.intro @uh5 @uj3) (And.intro @ujz @ukn))
    (And.intro (And.intro @usq @uhb) (And.intro @uee @ug6))))) (And.intro (And.intro (And.intro (And.intro @ugw
    (And.intro @uge @un6)) (And.intro (And.intro @ufc @udb) (And.intro @ufp @ufj))) (And.intro (And.intro
    (And.intro @uea @uip) (And.intro @uoi @ujg)) (And.intro (And.intro @umq @un3) (And.intro @uom @low_fn))))
    (And.intro (And.intro (And.intro @ufe (And.intro @ud9 @ufd)) (And.intro (And.intro @uf3 @ufm) (And.intro
    @uih @ufy))) (And.intro (And.intro (And.intro @ud8 @uem) (And.intro @uek @uef)) (And.intro
    (And.intro @ubz @uaz) (And.intro @u9e @ub5))))))) (And.intro (And.intro (And.intro (And.intro (And.intro
    (And.intro @ub6 (And.intro @ub1 @udg)) (And.intro (And.intro @uin @ugb) (And.intro @uk6
    @uk4))) (And.intro (And.intro (And.intro @uig @uex) (And.intro @ukk @ug8)) (And.intro (And.intro @uiy
    @uib) (And.intro @uio @ub9)))) (And.intro (And.intro (And.intro @ufw (And.intro @ud4 @uff)) (And.intro
    (And.intro @ufq @ueq) (And.intro @uk2 @u6d))) (And.intro (And.intro (And.intro @u54 @un4) (And.intro @run_bd
    @ufi)) (And.intro (And.intro @udc @uko) (And.intro @run_bs @utk))))) (And.intro (And.intro (And.intro (And.intro
    @us2 (And.intro @un2 @uns)) (And.intro (And.intro @uif @ufz) (And.intro @uew @ufx))) (And.intro
    (And.intro (And.intro @uf8 @ud5) (And.intro @ude @ubu)) (And.intro (And.intro @uk9 @uh1)
    (And.intro @ukl @ueb)))) (And.intro (And.intro (And.intro @uje (And.intro @uiq @ugv)) (And.intro (And.intro
    @uke @uay) (And.intro @uf2 @unm))) (And.intro (And.intro (And.intro @ufb @ujp) (And.intro @uhd
    @uej)) (And.intro (And.intro @uhc @ud6) (And.intro @ugd @ugu)))))) (And.intro (And.intro (And.intro
    (And.intro (And.intro @uh9 (And.intro @ua0 @uda)) (And.intro (And.intro @uim @bi_add) (And.intro @bi_sub
    @bi_mul))) (And.intro (And.intro (And.intro @bi_eql @bi_neq) (And.intro @bi_lss @bi_leq)) (And.intro (And.intro @bi_gtr @bi_geq) (And.intro
    @ut2 @urt)))) (And.intro (And.intro (And.intro @uro (And.intro @urq @un_not)) (And.intro (And.intro @uiw @ur7) (And.intro
    @mx_int @mn_int))) (And.intro (And.intro (And.intro @cv_int @Bool.and_true) (And.intro @Bool.true_and @Bool.and_self)) (And.intro (And.intro
    @Bool.not_true @Bool.not_false) (And.intro @Bool.and_false @Bool.false_and))))) (And.intro (And.intro (And.intro (And.intro @Bool.or_true
    (And.intro @Bool.or_false @Bool.true_or)) (And.intro (And.intro @Bool.false_or @Bool.false_eq_true) (And.intro @decide_eq_true_eq @and_self)))
    (And.intro (And.intro (And.intro @and_true @true_and) (And.intro @not_true_eq_false @not_false_eq_true)) (And.intro (And.intro @Nat.zero_add
    @Nat.add_zero) (And.intro @Nat.le_refl @Nat.lt_add_one)))) (And.intro (And.intro (And.intro (And.intro @Nat.lt_irrefl @and_false) (And.intro
    @false_and @Bool.not_eq_true')) (And.intro (And.intro @Bool.not_eq_eq_eq_not @decide_eq_false_iff_not) (And.intro @Bool.and_eq_true
    @Bool.or_eq_true))) (And.intro (And.intro (And.intro @decide_true @decide_false) (And.intro @uc4 @uc7)) (And.intro (And.intro @udv
    @ues) (And.intro @uc0 @uab))))))))
theorem cr : (∀ {α : Type} {a : α} {l : List α}, (a :: l).length = l.length + 1) ∧ (∀ {α : Type}, ([] : List α).length = 0) ∧ (∀ {α β : Type} {f : α → β} {a : α} {l : List α}, (a :: l).map f = f a :: l.map f) ∧ (∀ {α β : Type} {f : α → β}, [].map f = []) ∧ (∀ {α : Type} {a : α} {l : List α} {i : Nat}, (a :: l).take (i + 1) = a :: l.take i) ∧ (∀ {α : Type} {l : List α}, l.take 0 = []) ∧ (∀ {α : Type} {a : α} {l : List α} {i : Nat}, (a :: l).drop (i + 1) = l.drop i) ∧ (∀ {α : Type} {l : List α}, l.drop 0 = l) ∧ (∀ {α : Type} {i : Nat}, ([] : List α).drop i = []) ∧ (∀ {α : Type} {i : Nat}, ([] : List α).take i = []) ∧ (∀ {α : Type} {a : α} {l k : List α}, a :: l ++ k = a :: (l ++ k)) ∧ (∀ {α : Type} {l : List α}, [] ++ l = l) ∧ (∀ {α : Type} {l : List α}, l ++ [] = l) ∧ (∀ {α : Type} {a b : α} {l : List α}, (a :: l).set 0 b = b :: l) ∧ (∀ {α : Type} {a b : α} {l : List α} {i : Nat}, (a :: l).set (i + 1) b = a :: l.set i b) ∧ (∀ {α : Type} {f : α → Bool} {a : α} {l : List α}, (a :: l).all f = (f a && l.all f)) ∧ (∀ {α : Type} {f : α → Bool}, [].all f = true) ∧ (∀ {a b : Int}, a ≥ b ↔ b ≤ a) ∧ (∀ {a b : Nat}, a ≥ b ↔ b ≤ a) ∧ (∀ {a b : Int}, a > b ↔ b < a) ∧ (∀ {a b : Nat}, a > b ↔ b < a) ∧ (∀ {α : Type} [BEq α] [ReflBEq α] {a : α}, (a == a) = true) ∧ (∀ {α : Type} [BEq α] [LawfulBEq α] {a b : α}, (a == b) = true ↔ a = b) ∧ (∀ {α : Type} [BEq α] [LawfulBEq α] {a b : α}, (a != b) = true ↔ a ≠ b) ∧ (∀ {α : Type} {a b : α}, (a ≠ b) = ¬ a = b) ∧ (∀ {α : Type} {p : Prop} [Decidable p] {x y : α}, (if ¬ p then x else y) = if p then y else x) ∧ (∀ {α : Type} {p : Prop} [Decidable p] {x : α}, (if p then x else x) = x) ∧ (∀ {α : Type} {a b : α}, (some a).getD b = a) ∧ (∀ {α : Type} {b : α}, (none : Option α).getD b = b) :=
  ⟨List.length_cons, List.length_nil, List.map_cons, List.map_nil, List.take_succ_cons, List.take_zero, List.drop_succ_cons, List.drop_zero, List.drop_nil, List.take_nil, List.cons_append, (List.nil_append _), (List.append_nil _), List.set_cons_zero, List.set_cons_succ, List.all_cons, List.all_nil, Iff.rfl, Iff.rfl, Iff.rfl, Iff.rfl, (beq_self_eq_true _), beq_iff_eq, bne_iff_ne, (ne_eq _ _), (ite_not _ _ _), (ite_self _), Option.getD_some, Option.getD_none⟩
end Go.Proofs.YthnmienjiangkaaGreatDoor.Pi
namespace Go.Proofs.YthnmienjiangkaaGreatDoor.Pi
variable {α β σ : Type} {c : Nat} {H : Heap}
def St (H : Heap) (c : Nat) (bx : Box) (L : List Box) : Heap := hadd (hset H c bx) L
def killR (c : Nat) : Option (Out α) → Option (Out α)
  | some (.pan v H) => some (.pan v (hset H c .dead))
  | r => r
def runK (c : Nat) (m : M α) (H : Heap) : Option (Out α) := killR c (run m H)
def bindK (c : Nat) (r : Option (Out α)) (f : α → M β) : Option (Out β) :=
  match r with
  | none => none
  | some (.ok v H) => runK c (f v) H
  | some (.pan v H) => some (.pan v H)
inductive Res (σ α : Type) where
  | ok (v : α) (s : σ)
  | err (t : TypeId) (l : List Int)
  | no
def fltP (t : TypeId) (l : List Int) : PV := .iface t (.agg (l.map (PV.int .i64)))
theorem ut7 {t : TypeId} {l : List Int} : fltP t l = .iface t (.agg (l.map (PV.int .i64))) := nrfl rfl
theorem u3i {n : Nat} : ∀ l : List Int, lowL n (l.map (PV.int .i64)) = true
  | [] => u6d
  | a :: r => by rw [List.map_cons, u54, u8c, u3i r]; rfl
theorem uhj {t : TypeId} {l : List Int} {n : Nat} : (fltP t l).low n = true := by
  unfold fltP
  rw [ubz, uex]
  exact u3i l
def Res.bind {σ τ α β : Type} (r : Res σ α) (g : α → σ → Res τ β) : Res τ β :=
  match r with
  | .ok v s => g v s
  | .err t l => .err t l
  | .no => .no
def elimK {σ α γ : Type} (c : Nat) (H : Heap) (L : List Box) (r : Res σ α) (g : α → σ → Option (Out γ)) : Option (Out γ) :=
  match r with
  | .ok v s => g v s
  | .err t l => some (.pan (fltP t l) (St H c .dead L))
  | .no => none
def outK (c : Nat) (H : Heap) (L : List Box) (bx : σ → Box) (enc : α → PV) (r : Res σ α) : Option (Out PV) := elimK c H L r fun v s => some (.ok (enc v) (St H c (bx s) L))
def outS (c : Nat) (H : Heap) (L : List Box) (bx : σ → Box) (enc : α → PV) (r : α × σ) : Option (Out PV) := some (.ok (enc r.1) (St H c (bx r.2) L))
@[congr] theorem uwd {r r' : Option (Out α)} {f : α → M β} (h : r = r') : bindK c r f = bindK c r' f := by rw [h]
@[congr] theorem uvm {σ α γ : Type} {L L' : List Box} {r r' : Res σ α} {g g' : α → σ → Option (Out γ)} (h : r = r') (hL : L = L') (hg : ∀ v s, r' = .ok v s → g v s = g' v s) : elimK c H L r g = elimK c H L' r' g' := by
  subst h hL
  cases r with
  | ok v s => exact hg v s rfl
  | err t l => rfl
  | no => rfl
theorem ura {L : List Box} {bx : σ → Box} {enc : α → PV} {r : Res σ α} : outK c H L bx enc r = elimK c H L r fun v s => some (.ok (enc v) (St H c (bx s) L)) := nrfl rfl
theorem ui8 {L : List Box} {bx : σ → Box} {enc : α → PV} {v : α} {s : σ} : outK c H L bx enc (.ok v s) = some (.ok (enc v) (St H c (bx s) L)) := nrfl rfl
theorem udm {L : List Box} {bx : σ → Box} {enc : α → PV} {t : TypeId} {l : List Int} : outK c H L bx enc (Res.err t l : Res σ α) = some (.pan (fltP t l) (St H c .dead L)) := nrfl rfl
theorem uqa {L : List Box} {bx : σ → Box} {enc : α → PV} : outK c H L bx enc (Res.no : Res σ α) = none := nrfl rfl
theorem ums {γ : Type} {L : List Box} {g : α → σ → Option (Out γ)} : elimK c H L (Res.no : Res σ α) g = none := nrfl rfl
theorem uiu {τ : Type} {β : Type} {L : List Box} {bx : σ → Box} {enc : α → PV} {r : Res τ β} {g : β → τ → Res σ α} : outK c H L bx enc (r.bind g) = elimK c H L r fun v s => outK c H L bx enc (g v s) := by cases r <;> rfl
theorem umw {L : List Box} {bx : σ → Box} {enc : α → PV} {p : Prop} [Decidable p] {r r' : Res σ α} : outK c H L bx enc (if p then r else r') = if p then outK c H L bx enc r else outK c H L bx enc r' := by split <;> rfl
theorem uoe {γ : Type} {L : List Box} {v : α} {s : σ} {g : α → σ → Option (Out γ)} : elimK c H L (.ok v s) g = g v s := nrfl rfl
theorem uij {γ : Type} {L : List Box} {t : TypeId} {l : List Int} {g : α → σ → Option (Out γ)} : elimK c H L (Res.err t l : Res σ α) g = some (.pan (fltP t l) (St H c .dead L)) := nrfl rfl
theorem ukv {γ : Type} {L : List Box} {p : Prop} [Decidable p] {r r' : Res σ α} {g : α → σ → Option (Out γ)} : elimK c H L (if p then r else r') g = if p then elimK c H L r g else elimK c H L r' g := by split <;> rfl
theorem ugl {γ τ β : Type} {L : List Box} {r : Res τ β} {f : β → τ → Res σ α} {g : α → σ → Option (Out γ)} : elimK c H L (r.bind f) g = elimK c H L r fun v s => elimK c H L (f v s) g := by cases r <;> rfl
theorem umh {v : α} : killR c (some (.ok v H)) = some (.ok v H) := nrfl rfl
theorem ugg : killR c (none : Option (Out α)) = none := nrfl rfl
theorem uc9 {v : PV} : killR c (some (.pan v H) : Option (Out α)) = some (.pan v (hset H c .dead)) := nrfl rfl
theorem uir {p : Prop} [Decidable p] {r r' : Option (Out α)} : killR c (if p then r else r') = if p then killR c r else killR c r' := by split <;> rfl
theorem uix {m : M α} {f : α → M β} : runK c (M.bind m f) H = bindK c (runK c m H) f := by
  unfold runK
  rw [run_bind]
  cases run m H with
  | none => rfl
  | some q => cases q <;> rfl
theorem unn {f : α → M β} {v : α} : bindK c (some (.ok v H)) f = runK c (f v) H := nrfl rfl
theorem uh8 {f : α → M β} : bindK c none f = none := nrfl rfl
theorem uji {f : α → M β} {v : PV} : bindK c (some (.pan v H)) f = some (.pan v H) := nrfl rfl
theorem ujl {p : Prop} [Decidable p] {r r' : Option (Out α)} {f : α → M β} : bindK c (if p then r else r') f = if p then bindK c r f else bindK c r' f := by split <;> rfl
theorem uh6 {L : List Box} {r : Res σ α} {g : α → σ → Option (Out PV)} {f : PV → M β} : bindK c (elimK c H L r g) f = elimK c H L r fun v s => bindK c (g v s) f := by cases r <;> rfl
noncomputable def nbK (c : Nat) (H : Heap) (r : Option (Out α)) (f : α → M β) : Option (Out β) := killR c (nbR H r f)
@[congr] theorem ux3 {r r' : Option (Out α)} {f : α → M β} (h : r = r') : nbK c H r f = nbK c H r' f := by rw [h]
theorem ush {m : M α} {f : α → M β} : runK c (nb m f) H = nbK c H (runK c m H) f := by
  unfold nbK runK nbR run nb killR
  dsimp only
  cases m H with
  | none => rfl
  | some q => cases q <;> rfl
theorem nbK_ok {f : α → M β} {v : α} : nbK c H (some (.ok v H)) f = runK c (f v) H := by
  unfold nbK
  rw [nbR_ok]
  rfl
theorem uop {f : α → M β} : nbK c H none f = none := by
  unfold nbK nbR nb
  rfl
theorem usi {p : Prop} [Decidable p] {r r' : Option (Out α)} {f : α → M β} : nbK c H (if p then r else r') f = if p then nbK c H r f else nbK c H r' f := by split <;> rfl
theorem upx {m : M PV} (hc : c < List.length H) : runK c (trunc m) H = truncR H (runK c m H) := by
  unfold runK
  rw [ueh]
  cases run m H with
  | none => rfl
  | some q => cases q with
    | ok v K => rfl
    | pan v K =>
      show killR c (bif v.low H.length then some (Out.pan v (hcut K H.length)) else none) = (bif v.low H.length then some (Out.pan v (hcut (hset K c .dead) H.length)) else none)
      cases v.low H.length with
      | false => rfl
      | true =>
        simp only [cond_true, uc9, Option.some.injEq, Out.pan.injEq, true_and]
        unfold hset hcut
        rw [List.take_set]
theorem ugo {p : Bool} {m : M α} : runK c (guardM p m) H = if p = true then runK c m H else none := by cases p <;> rfl
theorem uiv {v : PV} {m : M PV} : runK c (resT v m) H = if isTup v = true then none else runK c m H := by unfold resT; cases isTup v <;> rfl
theorem uiz {p : Bool} {x y : M α} : runK c (condM (.bool p) x y) H = if p = true then runK c x H else runK c y H := by cases p <;> rfl
theorem un1 {p : Bool} {m : M PV} : runK c (gd (.bool p) true m) H = if p = true then runK c m H else some (.ok (.tup []) H) := by cases p <;> rfl
theorem uof {p : Bool} {m : M PV} : runK c (gd (.bool p) false m) H = if p = true then some (.ok (.tup []) H) else runK c m H := by cases p <;> rfl
theorem ump {b : Bool} {m : M PV} : runK c (gd (.tup []) b m) H = some (.ok (.tup []) H) := nrfl rfl
theorem ujo {v : α} : runK c (M.pure v) H = some (.ok v H) := nrfl rfl
theorem uo1 {v : PV} : runK c (M.pan v : M α) H = some (.pan v (hset H c .dead)) := nrfl rfl
theorem ujb : runK c (M.fail : M α) H = none := nrfl rfl
theorem ugt {m : M PV} : runK c (noPan m) H = noPanR (run m H) := by
  unfold runK
  rw [uf0]
  cases run m H with
  | none => rfl
  | some q => cases q <;> rfl
noncomputable def chkK (c : Nat) (r r' : Option (Out α)) (x : M β) (H : Heap) : Option (Out β) := killR c (chkR r r' x H)
@[congr] theorem uwz {r r' s s' : Option (Out α)} {x : M β} (h : r = s) (h' : r' = s') : chkK c r r' x H = chkK c s s' x H := by rw [h, h']
theorem uo6 {m m' : M α} {x : M β} : runK c (chk m m' x) H = chkK c (run m H) (run m' H) x H := nrfl rfl
theorem uqz {a : α} {K : Heap} {x : M β} : chkK c (some (.ok a K)) (some (.ok a K)) x H = runK c x H := by
  unfold chkK
  rw [um4]
  rfl
theorem ukb {r : Option (Out α)} {x : M β} : chkK c none r x H = none := by
  unfold chkK chkR run chk
  rfl
theorem uol {p : Prop} [Decidable p] {r r' s : Option (Out α)} {x : M β} : chkK c (if p then r else r') s x H = if p then chkK c r s x H else chkK c r' s x H := by split <;> rfl
theorem ukp {r : Option (Out α)} {x : M β} : chkR none r x H = none := by
  unfold chkR run chk
  rfl
theorem unc {p : Prop} [Decidable p] {r r' s : Option (Out α)} {x : M β} : chkR (if p then r else r') s x H = if p then chkR r s x H else chkR r' s x H := by split <;> rfl
section
variable {n : Nat} {id o : Nat} {x y v i : PV} {cs : List PV} {m : Option Nat} {mv b : Bool} {L : List Box}
theorem usd : runK c (al cs) H = killR c (run (al cs) H) := nrfl rfl
theorem urm : runK c (bx n v) H = killR c (run (bx n v) H) := nrfl rfl
theorem uta : runK c (ld m mv v) H = killR c (run (ld m mv v) H) := nrfl rfl
theorem uth : runK c (st n mv x v) H = killR c (run (st n mv x v) H) := nrfl rfl
theorem un9 : runK c (iaS n x i) H = killR c (run (iaS n x i) H) := nrfl rfl
theorem umj {len : Nat} : runK c (ixA len n m x i) H = killR c (run (ixA len n m x i) H) := nrfl rfl
theorem uk3 : runK c (pick v x y) H = killR c (run (pick v x y) H) := nrfl rfl
theorem ut1 {t : TypeId} : runK c (mi t v) H = killR c (run (mi t v) H) := nrfl rfl
theorem ur4 {t : FuncId} {l l' : List PV} : runK c (mf t l l') H = killR c (run (mf t l l') H) := nrfl rfl
theorem utb {z : List PV} {ps : List (Nat × Nat × PV)} : runK c (bd z ps) H = killR c (run (bd z ps) H) := nrfl rfl
theorem uq8 {l : List PV} : runK c (bs b m l) H = killR c (run (bs b m l) H) := nrfl rfl
theorem usr {k : Nat} : runK c (ap b n k x y) H = killR c (run (ap b n k x y) H) := nrfl rfl
theorem urd {k : Nat} : runK c (mk b n k x y) H = killR c (run (mk b n k x y) H) := nrfl rfl
theorem umg : runK c (lnS x) H = killR c (run (lnS x) H) := nrfl rfl
theorem uoa : runK c (lnL x) H = killR c (run (lnL x) H) := nrfl rfl
theorem uob : runK c (ixS x i) H = killR c (run (ixS x i) H) := nrfl rfl
theorem umo {lo hi : Option PV} : runK c (slS x lo hi) H = killR c (run (slS x lo hi) H) := nrfl rfl
theorem unj {lo hi : Option PV} : runK c (slL n x lo hi) H = killR c (run (slL n x lo hi) H) := nrfl rfl
theorem uqn {k : Cv} : runK c (cv k b x) H = killR c (run (cv k b x) H) := nrfl rfl
theorem usn : runK c (ex n x) H = killR c (run (ex n x) H) := nrfl rfl
theorem usy {op : BinOp} {ek : EqK} : runK c (bi op ek x y) H = killR c (run (bi op ek x y) H) := nrfl rfl
theorem toK {m : M PV} : runK c m H = killR c (run m H) := nrfl rfl
theorem ug0 {x : Box} (hc : c < List.length H) : St H c x L = St (hadd H L) c x [] := by
  unfold St hadd hset
  rw [List.append_nil, List.set_append_left _ _ hc]
theorem len_St {x : Box} : List.length (St H c x L) = List.length H + List.length L := by unfold St; rw [u6u, u8d]
theorem get_St {x : Box} (hc : c < List.length H) : hget (St H c x L) c = some x := by unfold St; rw [uc0 hc, u5u hc]
theorem utd {x : Box} (k : Nat) : hget (St H c x L) (List.length H + k) = nth L k := uc4 k
theorem uoj {x : Box} : hget (St H c x L) (List.length H) = nth L 0 := uc7
theorem set_St {x y : Box} (hc : c < List.length H) : hset (St H c x L) c y = St H c y L := by unfold St; rw [uab hc, set_set]
theorem uqt {x y : Box} (k : Nat) : hset (St H c x L) (List.length H + k) y = St H c x (L.set k y) := udv k
theorem uok {x y : Box} : hset (St H c x L) (List.length H) y = St H c x (L.set 0 y) := ues
theorem add_St {x : Box} {K : List Box} : hadd (St H c x L) K = St H c x (L ++ K) := u9q
theorem cut_St {x : Box} : hcut (St H c x L) (List.length H) = St H c x [] := by
  unfold St
  rw [cutA1]
  exact (List.append_nil _).symm
theorem uer {r : Res σ α} {bx : Box} {g : α → σ → Option (Out PV)} : truncR (St H c bx []) (elimK c H L r g) = elimK c H [] r fun v s => truncR (St H c bx []) (g v s) := by
  cases r with
  | ok v s => rfl
  | err t l =>
    show truncR (St H c bx []) (some (Out.pan (fltP t l) (St H c .dead L))) = some (Out.pan (fltP t l) (St H c .dead []))
    rw [ucx, if_pos uhj, len_St, List.length_nil, Nat.add_zero, cut_St]
  | no => rfl
theorem ufn {m : M PV} {x : Box} (hc : c < List.length H) : runK c (trunc m) (St H c x L) = truncR (St H c x L) (runK c m (St H c x L)) := upx (by rw [len_St]; omega)
theorem St_new {x : Box} : hadd H (x :: L) = St (hadd H [.dead]) (List.length H) x L := by
  unfold St hadd hset
  rw [List.set_append_right _ _ (Nat.le_refl _), Nat.sub_self, List.set_cons_zero, List.append_assoc]
  rfl
theorem uvg : List.length H < List.length (hadd H [.dead]) := by rw [u6u]; simp
theorem liftK {m : M PV} {x : Box} {bx : σ → Box} {enc : α → PV} {r : Res σ α} (h : ∀ H, c < List.length H → runK c m (St H c x []) = outK c H [] bx enc r) (hc : c < List.length H) : runK c m (St H c x L) = outK c H L bx enc r := by
  rw [ug0 hc, h _ (by rw [u6u]; omega)]
  cases r with
  | ok v s => rw [ui8, ui8, ug0 (L := L) hc]
  | err t l => rw [udm, udm, ug0 (L := L) hc]
  | no => rfl
theorem usz {bx : σ → Box} {enc : α → PV} {v : α} {s : σ} : outS c H L bx enc (v, s) = some (.ok (enc v) (St H c (bx s) L)) := nrfl rfl
theorem ur1 {bx : σ → Box} {enc : α → PV} {r : α × σ} {f : PV → M β} : bindR (outS c H L bx enc r) f = run (f (enc r.1)) (St H c (bx r.2) L) := nrfl rfl
end
end Go.Proofs.YthnmienjiangkaaGreatDoor.Pi
namespace Go.Proofs.YthnmienjiangkaaGreatDoor.Pi
theorem kDown : type_of% (And.intro (And.intro (And.intro (And.intro (And.intro @ui8 @udm) (And.intro @uqa (And.intro @ums @uiu))) (And.intro
    (And.intro @umw @uoe) (And.intro @uij (And.intro @ukv @ugl)))) (And.intro (And.intro (And.intro @umh @ugg)
    (And.intro @uc9 (And.intro @uir @uix))) (And.intro (And.intro @unn (And.intro @uh8 @uji)) (And.intro @ujl
    (And.intro @uh6 @uer))))) (And.intro (And.intro (And.intro (And.intro @ush @nbK_ok) (And.intro @uop (And.intro @usi
    @ufn))) (And.intro (And.intro @ugo (And.intro @uiv @uiz)) (And.intro @un1 (And.intro @uof @ump))))
    (And.intro (And.intro (And.intro @ujo @uo1) (And.intro @ujb (And.intro @ugt @uo6))) (And.intro (And.intro @uqz
    (And.intro @ukb @uol)) (And.intro @ukp (And.intro @unc @ur1)))))) := (And.intro (And.intro (And.intro (And.intro (And.intro @ui8 @udm) (And.intro @uqa (And.intro @ums @uiu))) (And.intro
    (And.intro @umw @uoe) (And.intro @uij (And.intro @ukv @ugl)))) (And.intro (And.intro (And.intro @umh @ugg)
    (And.intro @uc9 (And.intro @uir @uix))) (And.intro (And.intro @unn (And.intro @uh8 @uji)) (And.intro @ujl
    (And.intro @uh6 @uer))))) (And.intro (And.intro (And.intro (And.intro @ush @nbK_ok) (And.intro @uop (And.intro @usi
    @ufn))) (And.intro (And.intro @ugo (And.intro @uiv @uiz)) (And.intro @un1 (And.intro @uof @ump))))
    (And.intro (And.intro (And.intro @ujo @uo1) (And.intro @ujb (And.intro @ugt @uo6))) (And.intro (And.intro @uqz
    (And.intro @ukb @uol)) (And.intro @ukp (And.intro @unc @ur1))))))
theorem kUp : type_of% (And.intro (And.intro (And.intro (And.intro (And.intro @ura @usz) (And.intro @ut7 @uhj)) (And.intro (And.intro @usd @urm)
    (And.intro @uta @uth))) (And.intro (And.intro (And.intro @un9 @umj) (And.intro @uk3 @ut1)) (And.intro (And.intro
    @ur4 @utb) (And.intro @uq8 (And.intro @usr @urd))))) (And.intro (And.intro (And.intro (And.intro @umg @uoa)
    (And.intro @uob @umo)) (And.intro (And.intro @unj @uqn) (And.intro @usn @usy))) (And.intro (And.intro (And.intro @len_St
    @get_St) (And.intro @utd @uoj)) (And.intro (And.intro @set_St @uqt) (And.intro @uok (And.intro @add_St @cut_St)))))) := (And.intro (And.intro (And.intro (And.intro (And.intro @ura @usz) (And.intro @ut7 @uhj)) (And.intro (And.intro @usd @urm)
    (And.intro @uta @uth))) (And.intro (And.intro (And.intro @un9 @umj) (And.intro @uk3 @ut1)) (And.intro (And.intro
    @ur4 @utb) (And.intro @uq8 (And.intro @usr @urd))))) (And.intro (And.intro (And.intro (And.intro @umg @uoa)
    (And.intro @uob @umo)) (And.intro (And.intro @unj @uqn) (And.intro @usn @usy))) (And.intro (And.intro (And.intro @len_St
    @get_St) (And.intro @utd @uoj)) (And.intro (And.intro @set_St @uqt) (And.intro @uok (And.intro @add_St @cut_St))))))
end Go.Proofs.YthnmienjiangkaaGreatDoor.Pi
namespace Go.Proofs.YthnmienjiangkaaGreatDoor.Pi.Q
open Go Go.Proofs.YthnmienjiangkaaGreatDoor.Pi
noncomputable abbrev P : Program := Tryz.prog
noncomputable abbrev X : ExtT := fun _ => none
noncomputable abbrev C := callW P X
noncomputable abbrev CD := callDW P X
abbrev u5g : FuncId := 3
abbrev u88 : FuncId := 5
abbrev u4g : FuncId := 6
abbrev u63 : FuncId := 7
abbrev u3t : FuncId := 8
abbrev u5s : FuncId := 9
abbrev u3k : FuncId := 10
abbrev ubp : FuncId := 11
abbrev u4c : FuncId := 12
abbrev u83 : FuncId := 13
abbrev u3h : FuncId := 14
abbrev u84 : FuncId := 15
abbrev u3b : FuncId := 16
abbrev u4x : FuncId := 17
abbrev u2o : FuncId := 22
abbrev u0u : FuncId := 23
abbrev u15 : FuncId := 24
abbrev u0e : FuncId := 25
abbrev u0l : FuncId := 26
abbrev u25 : FuncId := 27
abbrev u22 : FuncId := 28
abbrev u1e : FuncId := 29
abbrev u20 : FuncId := 30
abbrev u1v : FuncId := 31
abbrev u1c : FuncId := 32
abbrev u58 : FuncId := 33
abbrev u2d : FuncId := 34
abbrev u01 : FuncId := 35
abbrev u0k : FuncId := 36
abbrev u2v : FuncId := 37
abbrev u1l : FuncId := 38
abbrev u06 : FuncId := 39
abbrev u11 : FuncId := 40
abbrev u2s : FuncId := 41
abbrev u1z : FuncId := 42
abbrev u03 : FuncId := 43
abbrev u7x : FuncId := 44
abbrev ucg : FuncId := 45
abbrev u59 : FuncId := 48
abbrev u3j : FuncId := 56
abbrev u0g : FuncId := 57
abbrev u0j : FuncId := 58
abbrev u0n : FuncId := 59
abbrev u5m : FuncId := 60
abbrev u2e : FuncId := 61
abbrev u00 : FuncId := 62
abbrev u2p : FuncId := 63
abbrev u2c : FuncId := 64
abbrev u0h : FuncId := 65
abbrev u18 : FuncId := 66
abbrev u2j : FuncId := 67
abbrev u3c : FuncId := 68
abbrev u5x : FuncId := 69
abbrev u21 : FuncId := 70
abbrev u0w : FuncId := 71
abbrev u3l : FuncId := 72
abbrev u29 : FuncId := 73
abbrev u5c : FuncId := 74
abbrev u3m : FuncId := 75
abbrev u09 : FuncId := 76
abbrev u6x : FuncId := 77
abbrev u7m : FuncId := 78
abbrev u9g : FuncId := 79
abbrev u1b : FuncId := 85
abbrev u94 : FuncId := 91
abbrev ue4 : FuncId := 96
abbrev u39 : FuncId := 97
abbrev ucd : FuncId := 98
abbrev u3e : FuncId := 99
abbrev u73 : FuncId := 100
abbrev u5f : FuncId := 101
abbrev u19 : FuncId := 102
abbrev u1m : FuncId := 103
abbrev ua3 : FuncId := 104
abbrev u3a : FuncId := 105
abbrev u51 : FuncId := 106
abbrev u4y : FuncId := 107
abbrev u5e : FuncId := 108
abbrev u35 : FuncId := 120
abbrev ucc : FuncId := 121
abbrev u34 : FuncId := 122
abbrev uc3 : FuncId := 123
abbrev u6n : FuncId := 124
abbrev u4b : FuncId := 125
abbrev ub0 : FuncId := 126
abbrev ub4 : FuncId := 127
abbrev u44 : FuncId := 128
abbrev u5r : FuncId := 129
abbrev u30 : FuncId := 130
abbrev u5h : FuncId := 137
abbrev u1i : FuncId := 138
abbrev ufh : FuncId := 139
abbrev u3w : FuncId := 140
abbrev u6q : FuncId := 141
abbrev u7w : FuncId := 142
abbrev u4j : FuncId := 143
abbrev u33 : FuncId := 144
abbrev u3x : FuncId := 146
abbrev uca : FuncId := 147
abbrev u1p : FuncId := 148
abbrev u5l : FuncId := 149
abbrev u1q : FuncId := 150
abbrev u2i : FuncId := 151
abbrev u47 : FuncId := 152
abbrev u0t : TypeId := 127
abbrev u43 : TypeId := 189
end Go.Proofs.YthnmienjiangkaaGreatDoor.Pi.Q
namespace Go.Proofs.YthnmienjiangkaaGreatDoor.Pi.Q
open Go Go.Proofs.YthnmienjiangkaaGreatDoor.Pi
theorem u82 (a0 a1 : PV) : C u5g [a0, a1] =
 trunc (M.bind (C u88 [(strip (strip a0)), (strip (strip a1))]) fun t24_0 =>
 M.bind (ex 0 t24_0) fun t25_1 =>
 M.bind (ex 1 (tupDrop 0 t24_0)) fun t26_2 =>
 M.bind (ex 2 (tupDrop 1 (tupDrop 0 t24_0))) fun t27_3 =>
 M.bind (al [(.bool false), (.int .u64 0), (.int .u64 0), (.bool false)]) fun t5_4 =>
 M.bind (st 4 true t5_4 t25_1) fun _ =>
 M.bind (C u4g [(strip (strip a0)), (strip (strip a1))]) fun t31_6 =>
 M.bind (ex 0 t31_6) fun t32_7 =>
 M.bind (ex 1 (tupDrop 0 t31_6)) fun t33_8 =>
 M.bind (ex 2 (tupDrop 1 (tupDrop 0 t31_6))) fun t34_9 =>
 M.bind (al [(.bool false), (.int .u64 0), (.int .u64 0), (.bool false)]) fun t8_10 =>
 M.bind (st 4 true t8_10 t32_7) fun _ =>
 M.bind (ld (some 4) false t5_4) fun t35_12 =>
 M.bind (ld (some 4) false t8_10) fun t36_13 =>
 M.bind (bi .neq (.struct [.bool, .int, .int, .bool]) t35_12 t36_13) fun t37_14 =>
 M.bind (gd (strip t37_14) false (M.pure (strip t26_2))) fun t39_15 =>
 M.bind (gd (strip t37_14) false (M.pure (strip t33_8))) fun t40_16 =>
 M.bind (gd (strip t37_14) false (bi .neq .none t39_15 t40_16)) fun t41_17 =>
 M.bind (pick (strip t37_14) (.bool true) t41_17) fun t42_18 =>
 M.bind (gd (strip t42_18) false (M.pure (strip t27_3))) fun t44_19 =>
 M.bind (gd (strip t42_18) false (M.pure (strip t34_9))) fun t45_20 =>
 M.bind (gd (strip t42_18) false (bi .neq .none t44_19 t45_20)) fun t46_21 =>
 M.bind (pick (strip t42_18) (.bool true) t46_21) fun t47_22 =>
 condM t47_22
 (M.pure (.bool false))
 (M.bind (C u63 [(strip (strip a0)), (strip (strip a1))]) fun t51_23 =>
 M.bind (ex 0 t51_23) fun t52_24 =>
 M.bind (ex 1 (tupDrop 0 t51_23)) fun t53_25 =>
 M.bind (ex 2 (tupDrop 1 (tupDrop 0 t51_23))) fun t54_26 =>
 M.bind (al [(.int .i64 0), (.bool false), (.int .i64 0), (.bool false), (.int .u64 0), (.int .u64 0), (.bool false)]) fun t11_27 =>
 M.bind (st 7 true t11_27 t52_24) fun _ =>
 M.bind (C u3t [(strip (strip a0)), (strip (strip a1))]) fun t58_29 =>
 M.bind (ex 0 t58_29) fun t59_30 =>
 M.bind (ex 1 (tupDrop 0 t58_29)) fun t60_31 =>
 M.bind (ex 2 (tupDrop 1 (tupDrop 0 t58_29))) fun t61_32 =>
 M.bind (al [(.int .i64 0), (.bool false), (.int .i64 0), (.bool false), (.int .u64 0), (.int .u64 0), (.bool false)]) fun t12_33 =>
 M.bind (st 7 true t12_33 t59_30) fun _ =>
 M.bind (ld (some 7) false t11_27) fun t62_35 =>
 M.bind (ld (some 7) false t12_33) fun t63_36 =>
 M.bind (bi .neq (.struct [.int, .bool, .int, .bool, .int, .int, .bool]) t62_35 t63_36) fun t64_37 =>
 M.bind (gd (strip t64_37) false (M.pure (strip t53_25))) fun t66_38 =>
 M.bind (gd (strip t64_37) false (M.pure (strip t60_31))) fun t67_39 =>
 M.bind (gd (strip t64_37) false (bi .neq .none t66_38 t67_39)) fun t68_40 =>
 M.bind (pick (strip t64_37) (.bool true) t68_40) fun t69_41 =>
 M.bind (gd (strip t69_41) false (M.pure (strip t54_26))) fun t71_42 =>
 M.bind (gd (strip t69_41) false (M.pure (strip t61_32))) fun t72_43 =>
 M.bind (gd (strip t69_41) false (bi .neq .none t71_42 t72_43)) fun t73_44 =>
 M.bind (pick (strip t69_41) (.bool true) t73_44) fun t74_45 =>
 condM t74_45
 (M.pure (.bool false))
 (M.bind (C u5s [(strip (strip a0)), (strip (strip a1))]) fun t78_46 =>
 M.bind (ex 0 t78_46) fun t79_47 =>
 M.bind (ex 1 (tupDrop 0 t78_46)) fun t80_48 =>
 M.bind (ex 2 (tupDrop 1 (tupDrop 0 t78_46))) fun t81_49 =>
 M.bind (al [(.int .i64 0), (.bool false), (.int .i64 0), (.bool false)]) fun t13_50 =>
 M.bind (st 4 true t13_50 t79_47) fun _ =>
 M.bind (C u3k [(strip (strip a0)), (strip (strip a1))]) fun t85_52 =>
 M.bind (ex 0 t85_52) fun t86_53 =>
 M.bind (ex 1 (tupDrop 0 t85_52)) fun t87_54 =>
 M.bind (ex 2 (tupDrop 1 (tupDrop 0 t85_52))) fun t88_55 =>
 M.bind (al [(.int .i64 0), (.bool false), (.int .i64 0), (.bool false)]) fun t14_56 =>
 M.bind (st 4 true t14_56 t86_53) fun _ =>
 M.bind (ld (some 4) false t13_50) fun t89_58 =>
 M.bind (ld (some 4) false t14_56) fun t90_59 =>
 M.bind (bi .neq (.struct [.int, .bool, .int, .bool]) t89_58 t90_59) fun t91_60 =>
 M.bind (gd (strip t91_60) false (M.pure (strip t80_48))) fun t93_61 =>
 M.bind (gd (strip t91_60) false (M.pure (strip t87_54))) fun t94_62 =>
 M.bind (gd (strip t91_60) false (bi .neq .none t93_61 t94_62)) fun t95_63 =>
 M.bind (pick (strip t91_60) (.bool true) t95_63) fun t96_64 =>
 M.bind (gd (strip t96_64) false (M.pure (strip t81_49))) fun t98_65 =>
 M.bind (gd (strip t96_64) false (M.pure (strip t88_55))) fun t99_66 =>
 M.bind (gd (strip t96_64) false (bi .neq .none t98_65 t99_66)) fun t100_67 =>
 M.bind (pick (strip t96_64) (.bool true) t100_67) fun t101_68 =>
 condM t101_68
 (M.pure (.bool false))
 (M.bind (C ubp [(strip (strip a0)), (strip (strip a1))]) fun t105_69 =>
 M.bind (ex 0 t105_69) fun t106_70 =>
 M.bind (ex 1 (tupDrop 0 t105_69)) fun t107_71 =>
 M.bind (ex 2 (tupDrop 1 (tupDrop 0 t105_69))) fun t108_72 =>
 M.bind (C u4c [(strip (strip a0)), (strip (strip a1))]) fun t112_73 =>
 M.bind (ex 0 t112_73) fun t113_74 =>
 M.bind (ex 1 (tupDrop 0 t112_73)) fun t114_75 =>
 M.bind (ex 2 (tupDrop 1 (tupDrop 0 t112_73))) fun t115_76 =>
 M.bind (bi .neq .none (strip t106_70) (strip t113_74)) fun t118_77 =>
 M.bind (gd (strip t118_77) false (M.pure (strip t107_71))) fun t120_78 =>
 M.bind (gd (strip t118_77) false (M.pure (strip t114_75))) fun t121_79 =>
 M.bind (gd (strip t118_77) false (bi .neq .none t120_78 t121_79)) fun t122_80 =>
 M.bind (pick (strip t118_77) (.bool true) t122_80) fun t123_81 =>
 M.bind (gd (strip t123_81) false (M.pure (strip t108_72))) fun t125_82 =>
 M.bind (gd (strip t123_81) false (M.pure (strip t115_76))) fun t126_83 =>
 M.bind (gd (strip t123_81) false (bi .neq .none t125_82 t126_83)) fun t127_84 =>
 M.bind (pick (strip t123_81) (.bool true) t127_84) fun t128_85 =>
 condM t128_85
 (M.pure (.bool false))
 (M.bind (C u83 [(strip (strip a0)), (strip (strip a1))]) fun t132_86 =>
 M.bind (ex 0 t132_86) fun t133_87 =>
 M.bind (ex 1 (tupDrop 0 t132_86)) fun t134_88 =>
 M.bind (ex 2 (tupDrop 1 (tupDrop 0 t132_86))) fun t135_89 =>
 M.bind (al [(.str ⟨#[]⟩), (.str ⟨#[]⟩), (.int .i64 0), (.int .i64 0), (.int .i64 0), (.bool false), (.int .i64 0), (.bool false), (.int .u64 0), (.int .u64 0), (.bool false), (.bool false), (.int .u64 0), (.int .u64 0), (.bool false), (.int .i64 0), (.bool false), (.int .i64 0), (.bool false)]) fun t17_90 =>
 M.bind (st 19 true t17_90 t133_87) fun _ =>
 M.bind (C u3h [(strip (strip a0)), (strip (strip a1))]) fun t139_92 =>
 M.bind (ex 0 t139_92) fun t140_93 =>
 M.bind (ex 1 (tupDrop 0 t139_92)) fun t141_94 =>
 M.bind (ex 2 (tupDrop 1 (tupDrop 0 t139_92))) fun t142_95 =>
 M.bind (al [(.str ⟨#[]⟩), (.str ⟨#[]⟩), (.int .i64 0), (.int .i64 0), (.int .i64 0), (.bool false), (.int .i64 0), (.bool false), (.int .u64 0), (.int .u64 0), (.bool false), (.bool false), (.int .u64 0), (.int .u64 0), (.bool false), (.int .i64 0), (.bool false), (.int .i64 0), (.bool false)]) fun t18_96 =>
 M.bind (st 19 true t18_96 t140_93) fun _ =>
 M.bind (ld (some 19) false t17_90) fun t143_98 =>
 M.bind (ld (some 19) false t18_96) fun t144_99 =>
 M.bind (bi .neq (.struct [.str, .str, .int, .int, .int, .bool, .int, .bool, .int, .int, .bool, .bool, .int, .int, .bool, .int, .bool, .int, .bool]) t143_98 t144_99) fun t145_100 =>
 M.bind (gd (strip t145_100) false (M.pure (strip t134_88))) fun t147_101 =>
 M.bind (gd (strip t145_100) false (M.pure (strip t141_94))) fun t148_102 =>
 M.bind (gd (strip t145_100) false (bi .neq .none t147_101 t148_102)) fun t149_103 =>
 M.bind (pick (strip t145_100) (.bool true) t149_103) fun t150_104 =>
 M.bind (gd (strip t150_104) false (M.pure (strip t135_89))) fun t152_105 =>
 M.bind (gd (strip t150_104) false (M.pure (strip t142_95))) fun t153_106 =>
 M.bind (gd (strip t150_104) false (bi .neq .none t152_105 t153_106)) fun t154_107 =>
 M.bind (pick (strip t150_104) (.bool true) t154_107) fun t155_108 =>
 condM t155_108
 (M.pure (.bool false))
 (M.bind (C u84 [(strip (strip a0)), (strip (strip a1))]) fun t159_109 =>
 M.bind (ex 0 t159_109) fun t160_110 =>
 M.bind (ex 1 (tupDrop 0 t159_109)) fun t161_111 =>
 M.bind (ex 2 (tupDrop 1 (tupDrop 0 t159_109))) fun t162_112 =>
 M.bind (al [(.str ⟨#[]⟩), (.int .i64 0), (.int .u32 0)]) fun t19_113 =>
 M.bind (st 3 true t19_113 t160_110) fun _ =>
 M.bind (C u3b [(strip (strip a0)), (strip (strip a1))]) fun t166_115 =>
 M.bind (ex 0 t166_115) fun t167_116 =>
 M.bind (ex 1 (tupDrop 0 t166_115)) fun t168_117 =>
 M.bind (ex 2 (tupDrop 1 (tupDrop 0 t166_115))) fun t169_118 =>
 M.bind (al [(.str ⟨#[]⟩), (.int .i64 0), (.int .u32 0)]) fun t20_119 =>
 M.bind (st 3 true t20_119 t167_116) fun _ =>
 M.bind (ld (some 3) false t19_113) fun t170_121 =>
 M.bind (ld (some 3) false t20_119) fun t171_122 =>
 M.bind (bi .eql (.struct [.str, .int, .int]) t170_121 t171_122) fun t172_123 =>
 M.bind (gd (strip t172_123) true (M.pure (strip t161_111))) fun t174_124 =>
 M.bind (gd (strip t172_123) true (M.pure (strip t168_117))) fun t175_125 =>
 M.bind (gd (strip t172_123) true (bi .eql .none t174_124 t175_125)) fun t176_126 =>
 M.bind (pick (strip t172_123) t176_126 (.bool false)) fun t177_127 =>
 M.bind (gd (strip t177_127) true (M.pure (strip t162_112))) fun t179_128 =>
 M.bind (gd (strip t177_127) true (M.pure (strip t169_118))) fun t180_129 =>
 M.bind (gd (strip t177_127) true (bi .eql .none t179_128 t180_129)) fun t181_130 =>
 M.bind (pick (strip t177_127) t181_130 (.bool false)) fun t182_131 =>
 M.bind (gd (strip t182_131) true (C u4x [])) fun t184_132 =>
 M.bind (pick (strip t182_131) t184_132 (.bool false)) fun t185_133 =>
 resT t185_133 (M.pure t185_133))))))) := by
 rw [C, u02 _ _ rfl]; kernel_rfl
theorem ued (a0 a1 : PV) : C u88 [a0, a1] =
 trunc (M.bind (al [(.bool false), (.int .u64 0), (.int .u64 0), (.bool false)]) fun t4_0 =>
 M.bind (C u2o [(strip (strip a0)), (strip (strip a1)), (.fn u0u [] [])]) fun t9_1 =>
 M.bind (ex 0 t9_1) fun t10_2 =>
 M.bind (ex 1 (tupDrop 0 t9_1)) fun t11_3 =>
 M.bind (ex 2 (tupDrop 1 (tupDrop 0 t9_1))) fun t12_4 =>
 M.bind (st 4 true t4_0 t10_2) fun _ =>
 M.bind (ld (some 4) true t4_0) fun t0_6 => guardM (!isTup t0_6) (resT t11_3 (resT t12_4 (M.pure (.tup [t0_6, t11_3, t12_4]))))) := by
 rw [C, u02 _ _ rfl]; kernel_rfl
theorem u97 (a0 a1 : PV) : C u4g [a0, a1] =
 trunc (M.bind (al [(.bool false), (.int .u64 0), (.int .u64 0), (.bool false)]) fun t4_0 =>
 M.bind (C u15 [(strip (strip a0)), (strip (strip a1))]) fun t15_1 =>
 M.bind (ex 0 t15_1) fun t16_2 =>
 M.bind (ex 1 (tupDrop 0 t15_1)) fun t17_3 =>
 M.bind (un .not (strip t17_3)) fun t19_4 =>
 condM t19_4
 (M.bind (bd [(.bool false), (.int .u64 0), (.int .u64 0), (.bool false)] []) fun t20_5 =>
 M.bind (st 4 true t4_0 t20_5) fun _ =>
 M.bind (ld (some 4) true t4_0) fun t0_7 => guardM (!isTup t0_7) (M.pure (.tup [t0_7, (.int .i64 0), (.int .i64 1)])))
 (M.bind (C u0e [(strip (strip t16_2))]) fun t22_8 =>
 M.bind (al [(.bool false), (.int .u64 0), (.int .u64 0), (.bool false)]) fun t9_9 =>
 M.bind (st 4 true t9_9 t22_8) fun _ =>
 M.bind (C u0l [(strip (strip t16_2))]) fun t25_11 =>
 M.bind (ex 0 t25_11) fun t26_12 =>
 M.bind (ex 1 (tupDrop 0 t25_11)) fun t27_13 =>
 M.bind (bi .neq .none (strip t27_13) (.int .i64 0)) fun t29_14 =>
 condM t29_14
 (M.bind (bd [(.bool false), (.int .u64 0), (.int .u64 0), (.bool false)] []) fun t30_15 =>
 M.bind (st 4 true t4_0 t30_15) fun _ =>
 M.bind (ld (some 4) true t4_0) fun t0_17 => guardM (!isTup t0_17) (resT t26_12 (resT t27_13 (M.pure (.tup [t0_17, t26_12, t27_13])))))
 (M.bind (ld (some 4) true t9_9) fun t33_18 =>
 M.bind (st 4 true t4_0 t33_18) fun _ =>
 M.bind (ld (some 4) true t4_0) fun t0_20 => guardM (!isTup t0_20) (resT t26_12 (M.pure (.tup [t0_20, t26_12, (.int .i64 0)])))))) := by
 rw [C, u02 _ _ rfl]; kernel_rfl
theorem ubv (a0 a1 : PV) : C u63 [a0, a1] =
 trunc (M.bind (al [(.int .i64 0), (.bool false), (.int .i64 0), (.bool false), (.int .u64 0), (.int .u64 0), (.bool false)]) fun t4_0 =>
 M.bind (C u25 [(strip (strip a0)), (strip (strip a1)), (.fn u22 [] [])]) fun t9_1 =>
 M.bind (ex 0 t9_1) fun t10_2 =>
 M.bind (ex 1 (tupDrop 0 t9_1)) fun t11_3 =>
 M.bind (ex 2 (tupDrop 1 (tupDrop 0 t9_1))) fun t12_4 =>
 M.bind (st 7 true t4_0 t10_2) fun _ =>
 M.bind (ld (some 7) true t4_0) fun t0_6 => guardM (!isTup t0_6) (resT t11_3 (resT t12_4 (M.pure (.tup [t0_6, t11_3, t12_4]))))) := by
 rw [C, u02 _ _ rfl]; kernel_rfl
theorem u86 (a0 a1 : PV) : C u3t [a0, a1] =
 trunc (M.bind (al [(.int .i64 0), (.bool false), (.int .i64 0), (.bool false), (.int .u64 0), (.int .u64 0), (.bool false)]) fun t4_0 =>
 M.bind (C u15 [(strip (strip a0)), (strip (strip a1))]) fun t15_1 =>
 M.bind (ex 0 t15_1) fun t16_2 =>
 M.bind (ex 1 (tupDrop 0 t15_1)) fun t17_3 =>
 M.bind (un .not (strip t17_3)) fun t19_4 =>
 condM t19_4
 (M.bind (bd [(.int .i64 0), (.bool false), (.int .i64 0), (.bool false), (.int .u64 0), (.int .u64 0), (.bool false)] []) fun t20_5 =>
 M.bind (st 7 true t4_0 t20_5) fun _ =>
 M.bind (ld (some 7) true t4_0) fun t0_7 => guardM (!isTup t0_7) (M.pure (.tup [t0_7, (.int .i64 0), (.int .i64 1)])))
 (M.bind (C u1e [(strip (strip t16_2))]) fun t22_8 =>
 M.bind (al [(.int .i64 0), (.bool false), (.int .i64 0), (.bool false), (.int .u64 0), (.int .u64 0), (.bool false)]) fun t9_9 =>
 M.bind (st 7 true t9_9 t22_8) fun _ =>
 M.bind (C u0l [(strip (strip t16_2))]) fun t25_11 =>
 M.bind (ex 0 t25_11) fun t26_12 =>
 M.bind (ex 1 (tupDrop 0 t25_11)) fun t27_13 =>
 M.bind (bi .neq .none (strip t27_13) (.int .i64 0)) fun t29_14 =>
 condM t29_14
 (M.bind (bd [(.int .i64 0), (.bool false), (.int .i64 0), (.bool false), (.int .u64 0), (.int .u64 0), (.bool false)] []) fun t30_15 =>
 M.bind (st 7 true t4_0 t30_15) fun _ =>
 M.bind (ld (some 7) true t4_0) fun t0_17 => guardM (!isTup t0_17) (resT t26_12 (resT t27_13 (M.pure (.tup [t0_17, t26_12, t27_13])))))
 (M.bind (ld (some 7) true t9_9) fun t33_18 =>
 M.bind (st 7 true t4_0 t33_18) fun _ =>
 M.bind (ld (some 7) true t4_0) fun t0_20 => guardM (!isTup t0_20) (resT t26_12 (M.pure (.tup [t0_20, t26_12, (.int .i64 0)])))))) := by
 rw [C, u02 _ _ rfl]; kernel_rfl
theorem ubf (a0 a1 : PV) : C u5s [a0, a1] =
 trunc (M.bind (al [(.int .i64 0), (.bool false), (.int .i64 0), (.bool false)]) fun t4_0 =>
 M.bind (C u20 [(strip (strip a0)), (strip (strip a1)), (.fn u1v [] [])]) fun t9_1 =>
 M.bind (ex 0 t9_1) fun t10_2 =>
 M.bind (ex 1 (tupDrop 0 t9_1)) fun t11_3 =>
 M.bind (ex 2 (tupDrop 1 (tupDrop 0 t9_1))) fun t12_4 =>
 M.bind (st 4 true t4_0 t10_2) fun _ =>
 M.bind (ld (some 4) true t4_0) fun t0_6 => guardM (!isTup t0_6) (resT t11_3 (resT t12_4 (M.pure (.tup [t0_6, t11_3, t12_4]))))) := by
 rw [C, u02 _ _ rfl]; kernel_rfl
theorem u7r (a0 a1 : PV) : C u3k [a0, a1] =
 trunc (M.bind (al [(.int .i64 0), (.bool false), (.int .i64 0), (.bool false)]) fun t4_0 =>
 M.bind (C u15 [(strip (strip a0)), (strip (strip a1))]) fun t15_1 =>
 M.bind (ex 0 t15_1) fun t16_2 =>
 M.bind (ex 1 (tupDrop 0 t15_1)) fun t17_3 =>
 M.bind (un .not (strip t17_3)) fun t19_4 =>
 condM t19_4
 (M.bind (bd [(.int .i64 0), (.bool false), (.int .i64 0), (.bool false)] []) fun t20_5 =>
 M.bind (st 4 true t4_0 t20_5) fun _ =>
 M.bind (ld (some 4) true t4_0) fun t0_7 => guardM (!isTup t0_7) (M.pure (.tup [t0_7, (.int .i64 0), (.int .i64 1)])))
 (M.bind (C u1c [(strip (strip t16_2))]) fun t22_8 =>
 M.bind (al [(.int .i64 0), (.bool false), (.int .i64 0), (.bool false)]) fun t9_9 =>
 M.bind (st 4 true t9_9 t22_8) fun _ =>
 M.bind (C u0l [(strip (strip t16_2))]) fun t25_11 =>
 M.bind (ex 0 t25_11) fun t26_12 =>
 M.bind (ex 1 (tupDrop 0 t25_11)) fun t27_13 =>
 M.bind (bi .neq .none (strip t27_13) (.int .i64 0)) fun t29_14 =>
 condM t29_14
 (M.bind (bd [(.int .i64 0), (.bool false), (.int .i64 0), (.bool false)] []) fun t30_15 =>
 M.bind (st 4 true t4_0 t30_15) fun _ =>
 M.bind (ld (some 4) true t4_0) fun t0_17 => guardM (!isTup t0_17) (resT t26_12 (resT t27_13 (M.pure (.tup [t0_17, t26_12, t27_13])))))
 (M.bind (ld (some 4) true t9_9) fun t33_18 =>
 M.bind (st 4 true t4_0 t33_18) fun _ =>
 M.bind (ld (some 4) true t4_0) fun t0_20 => guardM (!isTup t0_20) (resT t26_12 (M.pure (.tup [t0_20, t26_12, (.int .i64 0)])))))) := by
 rw [C, u02 _ _ rfl]; kernel_rfl
theorem ujd (a0 a1 : PV) : C ubp [a0, a1] =
 trunc (M.bind (C u58 [(strip (strip a0)), (strip (strip a1)), (.fn u2d [] [])]) fun t9_0 =>
 M.bind (ex 0 t9_0) fun t10_1 =>
 M.bind (ex 1 (tupDrop 0 t9_0)) fun t11_2 =>
 M.bind (ex 2 (tupDrop 1 (tupDrop 0 t9_0))) fun t12_3 =>
 resT t10_1 (resT t11_2 (resT t12_3 (M.pure (.tup [t10_1, t11_2, t12_3]))))) := by
 rw [C, u02 _ _ rfl]; kernel_rfl
noncomputable def u3o (v4 v5 v6 v7 v9 : PV) : M PV := atP P X u4c [1, 1, 1, 1, 1, 1] (mkEnv 40 0 [(4, v4), (5, v5), (6, v6), (7, v7), (9, v9)])
theorem u2u (v4 v5 v6 v7 v9 : PV) : u3o v4 v5 v6 v7 v9 =
 M.bind (C u0l [(strip (strip v7))]) fun t31_0 =>
 M.bind (ex 0 t31_0) fun t32_1 =>
 M.bind (ex 1 (tupDrop 0 t31_0)) fun t33_2 =>
 M.bind (bi .neq .none (strip t33_2) (.int .i64 0)) fun t35_3 =>
 condM t35_3
 (resT t32_1 (resT t33_2 (M.pure (.tup [(.int .i64 0), t32_1, t33_2]))))
 (resT v9 (resT t32_1 (M.pure (.tup [v9, t32_1, (.int .i64 0)])))) :=
 (u0q P X _ _ _).trans (by kernel_rfl)
theorem ubn (a0 a1 : PV) : C u4c [a0, a1] =
 trunc (M.bind (C u15 [(strip (strip a0)), (strip (strip a1))]) fun t15_0 =>
 M.bind (ex 0 t15_0) fun t16_1 =>
 M.bind (ex 1 (tupDrop 0 t15_0)) fun t17_2 =>
 M.bind (un .not (strip t17_2)) fun t19_3 =>
 condM t19_3
 (M.pure (.tup [(.int .i64 0), (.int .i64 0), (.int .i64 1)]))
 (M.bind (C u01 [(strip (strip t16_1)), (.int .u8 0)]) fun t21_4 =>
 M.bind (nc P (strip t16_1)) fun t23_5 =>
 M.bind (fa 3 t23_5) fun t24_6 =>
 M.bind (ld none false t24_6) fun t25_7 =>
 M.bind (bi .eql .none t25_7 (.int .i64 0)) fun t26_8 =>
 condM t26_8
 (M.bind (C u0k [(strip (strip t16_1))]) fun t28_9 =>
 u3o (.int .i64 0) (.int .i64 0) (.int .i64 0) t16_1 t28_9)
 (u3o (.int .i64 0) (.int .i64 0) (.int .i64 0) t16_1 (.int .i64 0)))) := by
 rw [C, u02 _ _ rfl]; kernel_rfl
theorem ufk (a0 a1 : PV) : C u83 [a0, a1] =
 trunc (M.bind (al [(.str ⟨#[]⟩), (.str ⟨#[]⟩), (.int .i64 0), (.int .i64 0), (.int .i64 0), (.bool false), (.int .i64 0), (.bool false), (.int .u64 0), (.int .u64 0), (.bool false), (.bool false), (.int .u64 0), (.int .u64 0), (.bool false), (.int .i64 0), (.bool false), (.int .i64 0), (.bool false)]) fun t4_0 =>
 M.bind (C u2v [(strip (strip a0)), (strip (strip a1)), (.fn u1l [] [])]) fun t9_1 =>
 M.bind (ex 0 t9_1) fun t10_2 =>
 M.bind (ex 1 (tupDrop 0 t9_1)) fun t11_3 =>
 M.bind (ex 2 (tupDrop 1 (tupDrop 0 t9_1))) fun t12_4 =>
 M.bind (st 19 true t4_0 t10_2) fun _ =>
 M.bind (ld (some 19) true t4_0) fun t0_6 => guardM (!isTup t0_6) (resT t11_3 (resT t12_4 (M.pure (.tup [t0_6, t11_3, t12_4]))))) := by
 rw [C, u02 _ _ rfl]; kernel_rfl
noncomputable def u2t (v4 v5 v6 v7 v9 : PV) : M PV := atP P X u3h [1, 1, 1, 1, 1, 1] (mkEnv 47 0 [(4, v4), (5, v5), (6, v6), (7, v7), (9, v9)])
theorem u28 (v4 v5 v6 v7 v9 : PV) : u2t v4 v5 v6 v7 v9 =
 M.bind (C u0l [(strip (strip v7))]) fun t37_0 =>
 M.bind (ex 0 t37_0) fun t38_1 =>
 M.bind (ex 1 (tupDrop 0 t37_0)) fun t39_2 =>
 M.bind (bi .neq .none (strip t39_2) (.int .i64 0)) fun t41_3 =>
 condM t41_3
 (M.bind (bd [(.str ⟨#[]⟩), (.str ⟨#[]⟩), (.int .i64 0), (.int .i64 0), (.int .i64 0), (.bool false), (.int .i64 0), (.bool false), (.int .u64 0), (.int .u64 0), (.bool false), (.bool false), (.int .u64 0), (.int .u64 0), (.bool false), (.int .i64 0), (.bool false), (.int .i64 0), (.bool false)] []) fun t42_4 =>
 M.bind (st 19 true v4 t42_4) fun _ =>
 M.bind (ld (some 19) true v4) fun t0_6 => guardM (!isTup t0_6) (resT t38_1 (resT t39_2 (M.pure (.tup [t0_6, t38_1, t39_2])))))
 (M.bind (ld (some 19) true v9) fun t45_7 =>
 M.bind (st 19 true v4 t45_7) fun _ =>
 M.bind (ld (some 19) true v4) fun t0_9 => guardM (!isTup t0_9) (resT t38_1 (M.pure (.tup [t0_9, t38_1, (.int .i64 0)])))) :=
 (u0q P X _ _ _).trans (by kernel_rfl)
theorem u9b (a0 a1 : PV) : C u3h [a0, a1] =
 trunc (M.bind (al [(.str ⟨#[]⟩), (.str ⟨#[]⟩), (.int .i64 0), (.int .i64 0), (.int .i64 0), (.bool false), (.int .i64 0), (.bool false), (.int .u64 0), (.int .u64 0), (.bool false), (.bool false), (.int .u64 0), (.int .u64 0), (.bool false), (.int .i64 0), (.bool false), (.int .i64 0), (.bool false)]) fun t4_0 =>
 M.bind (C u15 [(strip (strip a0)), (strip (strip a1))]) fun t15_1 =>
 M.bind (ex 0 t15_1) fun t16_2 =>
 M.bind (ex 1 (tupDrop 0 t15_1)) fun t17_3 =>
 M.bind (un .not (strip t17_3)) fun t19_4 =>
 condM t19_4
 (M.bind (bd [(.str ⟨#[]⟩), (.str ⟨#[]⟩), (.int .i64 0), (.int .i64 0), (.int .i64 0), (.bool false), (.int .i64 0), (.bool false), (.int .u64 0), (.int .u64 0), (.bool false), (.bool false), (.int .u64 0), (.int .u64 0), (.bool false), (.int .i64 0), (.bool false), (.int .i64 0), (.bool false)] []) fun t20_5 =>
 M.bind (st 19 true t4_0 t20_5) fun _ =>
 M.bind (ld (some 19) true t4_0) fun t0_7 => guardM (!isTup t0_7) (M.pure (.tup [t0_7, (.int .i64 0), (.int .i64 1)])))
 (M.bind (C u06 [(strip (strip t16_2))]) fun t22_8 =>
 M.bind (bd [(.str ⟨#[]⟩), (.str ⟨#[]⟩), (.int .i64 0), (.int .i64 0), (.int .i64 0), (.bool false), (.int .i64 0), (.bool false), (.int .u64 0), (.int .u64 0), (.bool false), (.bool false), (.int .u64 0), (.int .u64 0), (.bool false), (.int .i64 0), (.bool false), (.int .i64 0), (.bool false)] [(0, 1, t22_8)]) fun t23_9 =>
 M.bind (al [(.str ⟨#[]⟩), (.str ⟨#[]⟩), (.int .i64 0), (.int .i64 0), (.int .i64 0), (.bool false), (.int .i64 0), (.bool false), (.int .u64 0), (.int .u64 0), (.bool false), (.bool false), (.int .u64 0), (.int .u64 0), (.bool false), (.int .i64 0), (.bool false), (.int .i64 0), (.bool false)]) fun t9_10 =>
 M.bind (st 19 true t9_10 t23_9) fun _ =>
 M.bind (C u06 [(strip (strip t16_2))]) fun t25_12 =>
 M.bind (fa 1 t9_10) fun t26_13 =>
 M.bind (st 1 true t26_13 t25_12) fun _ =>
 M.bind (nc P (strip t16_2)) fun t28_15 =>
 M.bind (fa 3 t28_15) fun t29_16 =>
 M.bind (ld none false t29_16) fun t30_17 =>
 M.bind (bi .eql .none t30_17 (.int .i64 0)) fun t31_18 =>
 condM t31_18
 (M.bind (C u11 [(strip (strip t16_2))]) fun t33_19 =>
 M.bind (fa 2 t9_10) fun t34_20 =>
 M.bind (st 17 true t34_20 t33_19) fun _ =>
 u2t t4_0 (.int .i64 0) (.int .i64 0) t16_2 t9_10)
 (u2t t4_0 (.int .i64 0) (.int .i64 0) t16_2 t9_10))) := by
 rw [C, u02 _ _ rfl]; kernel_rfl
theorem ue3 (a0 a1 : PV) : C u84 [a0, a1] =
 trunc (M.bind (al [(.str ⟨#[]⟩), (.int .i64 0), (.int .u32 0)]) fun t4_0 =>
 M.bind (C u2s [(strip (strip a0)), (strip (strip a1)), (.fn u1z [] [])]) fun t9_1 =>
 M.bind (ex 0 t9_1) fun t10_2 =>
 M.bind (ex 1 (tupDrop 0 t9_1)) fun t11_3 =>
 M.bind (ex 2 (tupDrop 1 (tupDrop 0 t9_1))) fun t12_4 =>
 M.bind (st 3 true t4_0 t10_2) fun _ =>
 M.bind (ld (some 3) true t4_0) fun t0_6 => guardM (!isTup t0_6) (resT t11_3 (resT t12_4 (M.pure (.tup [t0_6, t11_3, t12_4]))))) := by
 rw [C, u02 _ _ rfl]; kernel_rfl
noncomputable def u2y (v4 v5 v6 v7 v9 : PV) : M PV := atP P X u3b [1, 1, 1, 1, 1] (mkEnv 49 0 [(4, v4), (5, v5), (6, v6), (7, v7), (9, v9)])
theorem u2b (v4 v5 v6 v7 v9 : PV) : u2y v4 v5 v6 v7 v9 =
 M.bind (C u0l [(strip (strip v7))]) fun t39_0 =>
 M.bind (ex 0 t39_0) fun t40_1 =>
 M.bind (ex 1 (tupDrop 0 t39_0)) fun t41_2 =>
 M.bind (bi .neq .none (strip t41_2) (.int .i64 0)) fun t43_3 =>
 condM t43_3
 (M.bind (bd [(.str ⟨#[]⟩), (.int .i64 0), (.int .u32 0)] []) fun t44_4 =>
 M.bind (st 3 true v4 t44_4) fun _ =>
 M.bind (ld (some 3) true v4) fun t0_6 => guardM (!isTup t0_6) (resT t40_1 (resT t41_2 (M.pure (.tup [t0_6, t40_1, t41_2])))))
 (M.bind (ld (some 3) true v9) fun t47_7 =>
 M.bind (st 3 true v4 t47_7) fun _ =>
 M.bind (ld (some 3) true v4) fun t0_9 => guardM (!isTup t0_9) (resT t40_1 (M.pure (.tup [t0_9, t40_1, (.int .i64 0)])))) :=
 (u0q P X _ _ _).trans (by kernel_rfl)
theorem u9a (a0 a1 : PV) : C u3b [a0, a1] =
 trunc (M.bind (al [(.str ⟨#[]⟩), (.int .i64 0), (.int .u32 0)]) fun t4_0 =>
 M.bind (C u15 [(strip (strip a0)), (strip (strip a1))]) fun t15_1 =>
 M.bind (ex 0 t15_1) fun t16_2 =>
 M.bind (ex 1 (tupDrop 0 t15_1)) fun t17_3 =>
 M.bind (un .not (strip t17_3)) fun t19_4 =>
 condM t19_4
 (M.bind (bd [(.str ⟨#[]⟩), (.int .i64 0), (.int .u32 0)] []) fun t20_5 =>
 M.bind (st 3 true t4_0 t20_5) fun _ =>
 M.bind (ld (some 3) true t4_0) fun t0_7 => guardM (!isTup t0_7) (M.pure (.tup [t0_7, (.int .i64 0), (.int .i64 1)])))
 (M.bind (C u06 [(strip (strip t16_2))]) fun t22_8 =>
 M.bind (bd [(.str ⟨#[]⟩), (.int .i64 0), (.int .u32 0)] [(0, 1, t22_8)]) fun t23_9 =>
 M.bind (al [(.str ⟨#[]⟩), (.int .i64 0), (.int .u32 0)]) fun t9_10 =>
 M.bind (st 3 true t9_10 t23_9) fun _ =>
 M.bind (nc P (strip t16_2)) fun t25_12 =>
 M.bind (fa 3 t25_12) fun t26_13 =>
 M.bind (ld none false t26_13) fun t27_14 =>
 M.bind (bi .eql .none t27_14 (.int .i64 0)) fun t28_15 =>
 condM t28_15
 (M.bind (C u01 [(strip (strip t16_2)), (.int .u8 4)]) fun t30_16 =>
 M.bind (cv (.int .i64) true t30_16) fun t31_17 =>
 M.bind (fa 1 t9_10) fun t32_18 =>
 M.bind (st 1 true t32_18 t31_17) fun _ =>
 M.bind (C u03 [(strip (strip t16_2)), (.int .i64 32), (.bool false)]) fun t34_20 =>
 M.bind (cv (.int .u32) true t34_20) fun t35_21 =>
 M.bind (fa 2 t9_10) fun t36_22 =>
 M.bind (st 1 true t36_22 t35_21) fun _ =>
 u2y t4_0 (.int .i64 0) (.int .i64 0) t16_2 t9_10)
 (u2y t4_0 (.int .i64 0) (.int .i64 0) t16_2 t9_10))) := by
 rw [C, u02 _ _ rfl]; kernel_rfl
theorem u9p : C u4x [] =
 trunc (M.bind (bd [(.int .i64 0), (.bool false), (.int .i64 0)] [(0, 1, (.int .i64 1))]) fun t4_0 =>
 M.bind (C u7x [(strip t4_0)]) fun t5_1 =>
 M.bind (ex 0 t5_1) fun t6_2 =>
 M.bind (ex 1 (tupDrop 0 t5_1)) fun t7_3 =>
 M.bind (bi .eql .none (strip t7_3) (.int .i64 0)) fun t9_4 =>
 M.bind (gd (strip t9_4) true (M.pure (strip t6_2))) fun t11_5 =>
 M.bind (gd (strip t9_4) true (cv .bytesToStr true t11_5)) fun t12_6 =>
 M.bind (gd (strip t9_4) true (bi .eql .none t12_6 (.str ⟨#[127]⟩))) fun t13_7 =>
 M.bind (pick (strip t9_4) t13_7 (.bool false)) fun t14_8 =>
 resT t14_8 (M.pure t14_8)) := by
 rw [C, u02 _ _ rfl]; kernel_rfl
theorem u8o (a0 a1 a2 : PV) : C u2o [a0, a1, a2] =
 trunc (M.bind (al [(.bool false), (.int .u64 0), (.int .u64 0), (.bool false)]) fun t6_0 =>
 M.bind (al [(.int .i64 0)]) fun t7_1 =>
 M.bind (al [(.int .i64 0)]) fun t8_2 =>
 M.bind (al [(.bool false), (.int .u64 0), (.int .u64 0), (.bool false)]) fun t9_3 =>
 M.bind (bi .lss .none (strip a1) (.int .i64 0)) fun t12_4 =>
 M.bind (gd (strip t12_4) false (M.pure (strip a1))) fun t14_5 =>
 M.bind (gd (strip t12_4) false (M.pure (strip a0))) fun t15_6 =>
 M.bind (gd (strip t12_4) false (lnL t15_6)) fun t16_7 =>
 M.bind (gd (strip t12_4) false (bi .gtr .none t14_5 t16_7)) fun t17_8 =>
 M.bind (pick (strip t12_4) (.bool true) t17_8) fun t18_9 =>
 condM t18_9
 (M.bind (ld (some 4) true t9_3) fun t19_10 =>
 M.bind (st 4 true t6_0 t19_10) fun _ =>
 M.bind (st 1 false t7_1 (.int .i64 0)) fun _ =>
 M.bind (st 1 false t8_2 (.int .i64 1)) fun _ =>
 M.bind (ld (some 4) true t6_0) fun t0_14 => guardM (!isTup t0_14) (M.bind (ld none true t7_1) fun t0_15 => guardM (!isTup t0_15) (M.bind (ld none true t8_2) fun t0_16 => guardM (!isTup t0_16) (M.pure (.tup [t0_14, t0_15, t0_16])))))
 (M.bind (mf u3j [] [t9_3, t6_0, t7_1, t8_2]) fun t20_17 =>
 guardM (isPtr t6_0 && isPtr t7_1 && isPtr t8_2) <| deferM CD t20_17 []
 (M.bind (bd [(.slice false true 0 []), (.int .i64 0)] [(0, 1, (strip a0)), (1, 1, (strip a1))]) fun t23_18 =>
 M.bind (bx 2 t23_18) fun t24_19 =>
 M.bind (callV P C (strip a2) [(strip (strip t24_19))]) fun t27_20 =>
 M.bind (st 4 true t6_0 t27_20) fun _ =>
 chk
 (M.bind (noPan (M.pure (strip t24_19))) fun t29_30 =>
 M.bind (noPan (nc P t29_30)) fun t30_31 =>
 M.bind (noPan (fa 1 t30_31)) fun t31_32 =>
 M.bind (noPan (ld (some 4) true t6_0)) fun t28_33 =>
 M.bind (noPan (st 4 true t6_0 t28_33)) fun _ =>
 M.bind (noPan (ld none true t31_32)) fun t32_35 =>
 M.bind (noPan (st 1 true t7_1 t32_35)) fun _ =>
 M.bind (noPan (st 1 false t8_2 (.int .i64 0))) fun _ =>
 M.pure [a0, a1, a2, .undef, .undef, .undef, t6_0, t7_1, t8_2, t9_3, t24_19, (strip a1), t12_4, (strip t12_4), t14_5, t15_6, t16_7, t17_8, t18_9, .undef, t20_17, (strip a0), (strip a1), t23_18, (strip t24_19), (strip a2), (strip t24_19), (strip t27_20), (strip t28_33), t29_30, t30_31, t31_32, (strip t32_35)])
 (M.bind (noPan (M.pure (strip t24_19))) fun t29_22 =>
 M.bind (noPan (nc P t29_22)) fun t30_23 =>
 M.bind (noPan (fa 1 t30_23)) fun t31_24 =>
 M.bind (noPan (ld (some 4) true t6_0)) fun t28_25 =>
 M.bind (noPan (ld none true t31_24)) fun t32_26 =>
 M.bind (noPan (st 4 true t6_0 t28_25)) fun _ =>
 M.bind (noPan (st 1 true t7_1 t32_26)) fun _ =>
 M.bind (noPan (st 1 false t8_2 (.int .i64 0))) fun _ =>
 M.pure [a0, a1, a2, .undef, .undef, .undef, t6_0, t7_1, t8_2, t9_3, t24_19, (strip a1), t12_4, (strip t12_4), t14_5, t15_6, t16_7, t17_8, t18_9, .undef, t20_17, (strip a0), (strip a1), t23_18, (strip t24_19), (strip a2), (strip t24_19), (strip t27_20), (strip t28_25), t29_22, t30_23, t31_24, (strip t32_26)]) <|
 chk
 (M.bind (noPan (M.pure (strip t24_19))) fun t29_38 =>
 M.bind (noPan (nc P t29_38)) fun t30_39 =>
 M.bind (noPan (fa 1 t30_39)) fun t31_40 =>
 M.bind (noPan (ld none true t31_40)) fun t32_41 =>
 M.bind (noPan (ld (some 4) true t6_0)) fun t28_42 =>
 M.bind (noPan (st 4 true t6_0 t28_42)) fun _ =>
 M.bind (noPan (st 1 true t7_1 t32_41)) fun _ =>
 M.bind (noPan (st 1 false t8_2 (.int .i64 0))) fun _ =>
 M.pure [a0, a1, a2, .undef, .undef, .undef, t6_0, t7_1, t8_2, t9_3, t24_19, (strip a1), t12_4, (strip t12_4), t14_5, t15_6, t16_7, t17_8, t18_9, .undef, t20_17, (strip a0), (strip a1), t23_18, (strip t24_19), (strip a2), (strip t24_19), (strip t27_20), (strip t28_42), t29_38, t30_39, t31_40, (strip t32_41)])
 (M.bind (noPan (M.pure (strip t24_19))) fun t29_22 =>
 M.bind (noPan (nc P t29_22)) fun t30_23 =>
 M.bind (noPan (fa 1 t30_23)) fun t31_24 =>
 M.bind (noPan (ld (some 4) true t6_0)) fun t28_25 =>
 M.bind (noPan (ld none true t31_24)) fun t32_26 =>
 M.bind (noPan (st 4 true t6_0 t28_25)) fun _ =>
 M.bind (noPan (st 1 true t7_1 t32_26)) fun _ =>
 M.bind (noPan (st 1 false t8_2 (.int .i64 0))) fun _ =>
 M.pure [a0, a1, a2, .undef, .undef, .undef, t6_0, t7_1, t8_2, t9_3, t24_19, (strip a1), t12_4, (strip t12_4), t14_5, t15_6, t16_7, t17_8, t18_9, .undef, t20_17, (strip a0), (strip a1), t23_18, (strip t24_19), (strip a2), (strip t24_19), (strip t27_20), (strip t28_25), t29_22, t30_23, t31_24, (strip t32_26)]) <|
 M.bind (noPan (M.pure (strip t24_19))) fun t29_46 =>
 M.bind (noPan (nc P t29_46)) fun t30_47 =>
 M.bind (noPan (fa 1 t30_47)) fun t31_48 =>
 M.bind (noPan (ld (some 4) true t6_0)) fun t28_49 =>
 M.bind (noPan (ld none true t31_48)) fun t32_50 =>
 M.bind (noPan (st 4 true t6_0 t28_49)) fun _ =>
 M.bind (noPan (st 1 true t7_1 t32_50)) fun _ =>
 M.bind (noPan (st 1 false t8_2 (.int .i64 0))) fun _ =>
 M.bind (ld (some 4) true t6_0) fun t0_54 => guardM (!isTup t0_54) (M.bind (ld none true t7_1) fun t0_55 => guardM (!isTup t0_55) (M.bind (ld none true t8_2) fun t0_56 => guardM (!isTup t0_56) (M.pure (.tup [t0_54, t0_55, t0_56])))))
 (M.bind (ld (some 4) true t6_0) fun t0_57 => guardM (!isTup t0_57) (M.bind (ld none true t7_1) fun t0_58 => guardM (!isTup t0_58) (M.bind (ld none true t8_2) fun t0_59 => guardM (!isTup t0_59) (M.pure (.tup [t0_57, t0_58, t0_59]))))))) := by
 rw [C, u02 _ _ rfl]; kernel_rfl
noncomputable def u2a (v1 v2 v3 : PV) : M PV := atP P X u0u [1, 1, 1] (mkEnv 37 0 [(1, v1), (2, v2), (3, v3)])
noncomputable def u2l (v2 v4 : PV) : M PV := atP P X u0u [1, 1, 1, 1, 1, 1, 1] (mkEnv 37 0 [(2, v2), (4, v4)])
theorem u6z (v1 v2 v3 : PV) : u2a v1 v2 v3 =
 M.bind (bi .gtr .none (strip v3) (.int .u8 1)) fun t22_0 =>
 M.bind (bi .and .none (strip v3) (.int .u8 1)) fun t24_1 =>
 M.bind (bi .eql .none t24_1 (.int .u8 1)) fun t25_2 =>
 M.bind (bd [(.bool false), (.int .u64 0), (.int .u64 0), (.bool false)] [(0, 1, t22_0), (3, 1, t25_2)]) fun t26_3 =>
 M.bind (al [(.bool false), (.int .u64 0), (.int .u64 0), (.bool false)]) fun t4_4 =>
 M.bind (st 4 true t4_4 t26_3) fun _ =>
 M.bind (mf u0n [] [t4_4, v1]) fun t27_6 =>
 M.bind (callV P C (strip t27_6) []) fun t29_7 =>
 M.bind (fa 1 t4_4) fun t30_8 =>
 M.bind (st 1 true t30_8 t29_7) fun _ =>
 M.bind (fa 3 t4_4) fun t31_10 =>
 M.bind (ld none false t31_10) fun t32_11 =>
 condM t32_11
 (M.bind (callV P C (strip t27_6) []) fun t34_12 =>
 M.bind (fa 2 t4_4) fun t35_13 =>
 M.bind (st 1 true t35_13 t34_12) fun _ =>
 u2l v2 t4_4)
 (u2l v2 t4_4) :=
 (u0q P X _ _ _).trans (by kernel_rfl)
theorem u24 (v2 v4 : PV) : u2l v2 v4 =
 M.bind (ld (some 4) true v4) fun t36_0 =>
 M.bind (st 4 true v2 t36_0) fun _ =>
 M.bind (ld (some 4) true v2) fun t0_2 => guardM (!isTup t0_2) (M.pure t0_2) :=
 (u0q P X _ _ _).trans (by kernel_rfl)
theorem u95 (a0 : PV) : C u0u [a0] =
 trunc (M.bind (bx 1 a0) fun t1_0 =>
 M.bind (al [(.bool false), (.int .u64 0), (.int .u64 0), (.bool false)]) fun t2_1 =>
 M.bind (ld none false t1_0) fun t6_2 =>
 M.bind (C u0g [(strip t6_2), (.int .u8 5)]) fun t7_3 =>
 M.bind (bi .gtr .none (strip t7_3) (.int .u8 1)) fun t9_4 =>
 M.bind (gd (strip t9_4) true (M.pure (strip t7_3))) fun t11_5 =>
 M.bind (gd (strip t9_4) true (bi .lss .none t11_5 (.int .u8 4))) fun t12_6 =>
 M.bind (pick (strip t9_4) t12_6 (.bool false)) fun t13_7 =>
 condM t13_7
 (M.bind (noPan (ld none false t1_0)) fun t14_14 =>
 M.bind (noPan (ld none false t1_0)) fun t15_15 =>
 M.bind (noPan (nc P t15_15)) fun t16_16 =>
 M.bind (noPan (fa 1 t16_16)) fun t17_17 =>
 M.bind (noPan (ld none false t17_17)) fun t18_18 =>
 M.bind (noPan (bi .sub .none t18_18 (.int .i64 1))) fun t19_19 =>
 M.bind (C u0j [(strip t14_14), (strip t19_19), (.int .i64 4)]) fun t20_20 =>
 u2a t1_0 t2_1 t7_3)
 (u2a t1_0 t2_1 t7_3)) := by
 rw [C, u02 _ _ rfl]; kernel_rfl
theorem u9w (a0 a1 : PV) : C u15 [a0, a1] =
 trunc (M.bind (bd [(.slice false true 0 []), (.int .i64 0), (.int .i64 0), (.int .i64 0)] [(0, 1, (strip a0)), (1, 1, (strip a1))]) fun t8_0 =>
 M.bind (bx 4 t8_0) fun t9_1 =>
 M.bind (bi .geq .none (strip a1) (.int .i64 0)) fun t11_2 =>
 M.bind (gd (strip t11_2) true (M.pure (strip a1))) fun t13_3 =>
 M.bind (gd (strip t11_2) true (M.pure (strip a0))) fun t14_4 =>
 M.bind (gd (strip t11_2) true (lnL t14_4)) fun t15_5 =>
 M.bind (gd (strip t11_2) true (bi .leq .none t13_3 t15_5)) fun t16_6 =>
 M.bind (pick (strip t11_2) t16_6 (.bool false)) fun t17_7 =>
 resT t9_1 (resT t17_7 (M.pure (.tup [t9_1, t17_7])))) := by
 rw [C, u02 _ _ rfl]; kernel_rfl
noncomputable def u1d (v0 v2 v4 : PV) : M PV := atP P X u0e [1, 1, 1, 1] (mkEnv 48 0 [(0, v0), (2, v2), (4, v4)])
noncomputable def u17 (v0 v2 v5 v6 : PV) : M PV := atP P X u0e [1, 1, 1, 1, 1, 1, 1] (mkEnv 48 0 [(0, v0), (2, v2), (5, v5), (6, v6)])
noncomputable def u1h (v2 v5 : PV) : M PV := atP P X u0e [1, 1, 1, 1, 1, 1, 1, 1, 1] (mkEnv 48 0 [(2, v2), (5, v5)])
theorem u52 (v0 v2 v4 : PV) : u1d v0 v2 v4 =
 M.bind (bi .geq .none (strip v4) (.int .u8 4)) fun t30_0 =>
 M.bind (bi .rem .none (strip v4) (.int .u8 2)) fun t32_1 =>
 M.bind (bi .eql .none t32_1 (.int .u8 1)) fun t33_2 =>
 M.bind (bd [(.bool false), (.int .u64 0), (.int .u64 0), (.bool false)] [(0, 1, t30_0), (3, 1, t33_2)]) fun t34_3 =>
 M.bind (al [(.bool false), (.int .u64 0), (.int .u64 0), (.bool false)]) fun t5_4 =>
 M.bind (st 4 true t5_4 t34_3) fun _ =>
 M.bind (fa 0 t5_4) fun t35_6 =>
 M.bind (ld none false t35_6) fun t36_7 =>
 condM t36_7
 (u17 v0 v2 t5_4 (.int .i64 64))
 (u17 v0 v2 t5_4 (.int .i64 32)) :=
 (u0q P X _ _ _).trans (by kernel_rfl)
theorem u4f (v0 v2 v5 v6 : PV) : u17 v0 v2 v5 v6 =
 M.bind (C u03 [(strip (strip v0)), (strip (strip v6)), (.bool false)]) fun t39_0 =>
 M.bind (fa 1 v5) fun t40_1 =>
 M.bind (st 1 true t40_1 t39_0) fun _ =>
 M.bind (fa 3 v5) fun t41_3 =>
 M.bind (ld none false t41_3) fun t42_4 =>
 condM t42_4
 (M.bind (C u03 [(strip (strip v0)), (strip (strip v6)), (.bool false)]) fun t45_5 =>
 M.bind (fa 2 v5) fun t46_6 =>
 M.bind (st 1 true t46_6 t45_5) fun _ =>
 u1h v2 v5)
 (u1h v2 v5) :=
 (u0q P X _ _ _).trans (by kernel_rfl)
theorem u23 (v2 v5 : PV) : u1h v2 v5 =
 M.bind (ld (some 4) true v5) fun t47_0 =>
 M.bind (st 4 true v2 t47_0) fun _ =>
 M.bind (ld (some 4) true v2) fun t0_2 => guardM (!isTup t0_2) (M.pure t0_2) :=
 (u0q P X _ _ _).trans (by kernel_rfl)
theorem u6f (a0 : PV) : C u0e [a0] =
 trunc (M.bind (al [(.bool false), (.int .u64 0), (.int .u64 0), (.bool false)]) fun t2_0 =>
 M.bind (nc P (strip a0)) fun t8_1 =>
 M.bind (fa 1 t8_1) fun t9_2 =>
 M.bind (ld none true t9_2) fun t10_3 =>
 M.bind (C u01 [(strip (strip a0)), (.int .u8 5)]) fun t12_4 =>
 M.bind (nc P (strip a0)) fun t14_5 =>
 M.bind (fa 3 t14_5) fun t15_6 =>
 M.bind (ld none false t15_6) fun t16_7 =>
 M.bind (bi .eql .none t16_7 (.int .i64 0)) fun t17_8 =>
 M.bind (gd (strip t17_8) true (M.pure (strip t12_4))) fun t19_9 =>
 M.bind (gd (strip t17_8) true (bi .gtr .none t19_9 (.int .u8 1))) fun t20_10 =>
 M.bind (pick (strip t17_8) t20_10 (.bool false)) fun t21_11 =>
 M.bind (gd (strip t21_11) true (M.pure (strip t12_4))) fun t23_12 =>
 M.bind (gd (strip t21_11) true (bi .lss .none t23_12 (.int .u8 4))) fun t24_13 =>
 M.bind (pick (strip t21_11) t24_13 (.bool false)) fun t25_14 =>
 condM t25_14
 (M.bind (C u00 [(strip (strip a0)), (strip (strip t10_3)), (.int .i64 4)]) fun t28_15 =>
 u1d a0 t2_0 t12_4)
 (u1d a0 t2_0 t12_4)) := by
 rw [C, u02 _ _ rfl]; kernel_rfl
theorem u4h (a0 : PV) : C u0l [a0] =
 trunc (M.bind (nc P (strip a0)) fun t5_0 =>
 M.bind (fa 3 t5_0) fun t6_1 =>
 M.bind (ld none false t6_1) fun t7_2 =>
 M.bind (bi .neq .none t7_2 (.int .i64 0)) fun t8_3 =>
 condM t8_3
 (nb (nc P (strip a0)) fun t10_4 =>
 nb (fa 2 t10_4) fun t11_5 =>
 nb (ld none true t11_5) fun t12_6 =>
 nb (nc P (strip a0)) fun t14_7 =>
 nb (fa 3 t14_7) fun t15_8 =>
 nb (ld none true t15_8) fun t16_9 =>
 resT t12_6 (resT t16_9 (M.pure (.tup [t12_6, t16_9]))))
 (M.bind (nc P (strip a0)) fun t18_10 =>
 M.bind (fa 1 t18_10) fun t19_11 =>
 M.bind (ld none true t19_11) fun t20_12 =>
 resT t20_12 (M.pure (.tup [t20_12, (.int .i64 0)])))) := by
 rw [C, u02 _ _ rfl]; kernel_rfl
theorem u7d (a0 a1 a2 : PV) : C u25 [a0, a1, a2] =
 trunc (M.bind (al [(.int .i64 0), (.bool false), (.int .i64 0), (.bool false), (.int .u64 0), (.int .u64 0), (.bool false)]) fun t6_0 =>
 M.bind (al [(.int .i64 0)]) fun t7_1 =>
 M.bind (al [(.int .i64 0)]) fun t8_2 =>
 M.bind (al [(.int .i64 0), (.bool false), (.int .i64 0), (.bool false), (.int .u64 0), (.int .u64 0), (.bool false)]) fun t9_3 =>
 M.bind (bi .lss .none (strip a1) (.int .i64 0)) fun t12_4 =>
 M.bind (gd (strip t12_4) false (M.pure (strip a1))) fun t14_5 =>
 M.bind (gd (strip t12_4) false (M.pure (strip a0))) fun t15_6 =>
 M.bind (gd (strip t12_4) false (lnL t15_6)) fun t16_7 =>
 M.bind (gd (strip t12_4) false (bi .gtr .none t14_5 t16_7)) fun t17_8 =>
 M.bind (pick (strip t12_4) (.bool true) t17_8) fun t18_9 =>
 condM t18_9
 (M.bind (ld (some 7) true t9_3) fun t19_10 =>
 M.bind (st 7 true t6_0 t19_10) fun _ =>
 M.bind (st 1 false t7_1 (.int .i64 0)) fun _ =>
 M.bind (st 1 false t8_2 (.int .i64 1)) fun _ =>
 M.bind (ld (some 7) true t6_0) fun t0_14 => guardM (!isTup t0_14) (M.bind (ld none true t7_1) fun t0_15 => guardM (!isTup t0_15) (M.bind (ld none true t8_2) fun t0_16 => guardM (!isTup t0_16) (M.pure (.tup [t0_14, t0_15, t0_16])))))
 (M.bind (mf u2p [] [t9_3, t6_0, t7_1, t8_2]) fun t20_17 =>
 guardM (isPtr t6_0 && isPtr t7_1 && isPtr t8_2) <| deferM CD t20_17 []
 (M.bind (bd [(.slice false true 0 []), (.int .i64 0)] [(0, 1, (strip a0)), (1, 1, (strip a1))]) fun t23_18 =>
 M.bind (bx 2 t23_18) fun t24_19 =>
 M.bind (callV P C (strip a2) [(strip (strip t24_19))]) fun t27_20 =>
 M.bind (st 7 true t6_0 t27_20) fun _ =>
 chk
 (M.bind (noPan (M.pure (strip t24_19))) fun t29_30 =>
 M.bind (noPan (nc P t29_30)) fun t30_31 =>
 M.bind (noPan (fa 1 t30_31)) fun t31_32 =>
 M.bind (noPan (ld (some 7) true t6_0)) fun t28_33 =>
 M.bind (noPan (st 7 true t6_0 t28_33)) fun _ =>
 M.bind (noPan (ld none true t31_32)) fun t32_35 =>
 M.bind (noPan (st 1 true t7_1 t32_35)) fun _ =>
 M.bind (noPan (st 1 false t8_2 (.int .i64 0))) fun _ =>
 M.pure [a0, a1, a2, .undef, .undef, .undef, t6_0, t7_1, t8_2, t9_3, t24_19, (strip a1), t12_4, (strip t12_4), t14_5, t15_6, t16_7, t17_8, t18_9, .undef, t20_17, (strip a0), (strip a1), t23_18, (strip t24_19), (strip a2), (strip t24_19), (strip t27_20), (strip t28_33), t29_30, t30_31, t31_32, (strip t32_35)])
 (M.bind (noPan (M.pure (strip t24_19))) fun t29_22 =>
 M.bind (noPan (nc P t29_22)) fun t30_23 =>
 M.bind (noPan (fa 1 t30_23)) fun t31_24 =>
 M.bind (noPan (ld (some 7) true t6_0)) fun t28_25 =>
 M.bind (noPan (ld none true t31_24)) fun t32_26 =>
 M.bind (noPan (st 7 true t6_0 t28_25)) fun _ =>
 M.bind (noPan (st 1 true t7_1 t32_26)) fun _ =>
 M.bind (noPan (st 1 false t8_2 (.int .i64 0))) fun _ =>
 M.pure [a0, a1, a2, .undef, .undef, .undef, t6_0, t7_1, t8_2, t9_3, t24_19, (strip a1), t12_4, (strip t12_4), t14_5, t15_6, t16_7, t17_8, t18_9, .undef, t20_17, (strip a0), (strip a1), t23_18, (strip t24_19), (strip a2), (strip t24_19), (strip t27_20), (strip t28_25), t29_22, t30_23, t31_24, (strip t32_26)]) <|
 chk
 (M.bind (noPan (M.pure (strip t24_19))) fun t29_38 =>
 M.bind (noPan (nc P t29_38)) fun t30_39 =>
 M.bind (noPan (fa 1 t30_39)) fun t31_40 =>
 M.bind (noPan (ld none true t31_40)) fun t32_41 =>
 M.bind (noPan (ld (some 7) true t6_0)) fun t28_42 =>
 M.bind (noPan (st 7 true t6_0 t28_42)) fun _ =>
 M.bind (noPan (st 1 true t7_1 t32_41)) fun _ =>
 M.bind (noPan (st 1 false t8_2 (.int .i64 0))) fun _ =>
 M.pure [a0, a1, a2, .undef, .undef, .undef, t6_0, t7_1, t8_2, t9_3, t24_19, (strip a1), t12_4, (strip t12_4), t14_5, t15_6, t16_7, t17_8, t18_9, .undef, t20_17, (strip a0), (strip a1), t23_18, (strip t24_19), (strip a2), (strip t24_19), (strip t27_20), (strip t28_42), t29_38, t30_39, t31_40, (strip t32_41)])
 (M.bind (noPan (M.pure (strip t24_19))) fun t29_22 =>
 M.bind (noPan (nc P t29_22)) fun t30_23 =>
 M.bind (noPan (fa 1 t30_23)) fun t31_24 =>
 M.bind (noPan (ld (some 7) true t6_0)) fun t28_25 =>
 M.bind (noPan (ld none true t31_24)) fun t32_26 =>
 M.bind (noPan (st 7 true t6_0 t28_25)) fun _ =>
 M.bind (noPan (st 1 true t7_1 t32_26)) fun _ =>
 M.bind (noPan (st 1 false t8_2 (.int .i64 0))) fun _ =>
 M.pure [a0, a1, a2, .undef, .undef, .undef, t6_0, t7_1, t8_2, t9_3, t24_19, (strip a1), t12_4, (strip t12_4), t14_5, t15_6, t16_7, t17_8, t18_9, .undef, t20_17, (strip a0), (strip a1), t23_18, (strip t24_19), (strip a2), (strip t24_19), (strip t27_20), (strip t28_25), t29_22, t30_23, t31_24, (strip t32_26)]) <|
 M.bind (noPan (M.pure (strip t24_19))) fun t29_46 =>
 M.bind (noPan (nc P t29_46)) fun t30_47 =>
 M.bind (noPan (fa 1 t30_47)) fun t31_48 =>
 M.bind (noPan (ld (some 7) true t6_0)) fun t28_49 =>
 M.bind (noPan (ld none true t31_48)) fun t32_50 =>
 M.bind (noPan (st 7 true t6_0 t28_49)) fun _ =>
 M.bind (noPan (st 1 true t7_1 t32_50)) fun _ =>
 M.bind (noPan (st 1 false t8_2 (.int .i64 0))) fun _ =>
 M.bind (ld (some 7) true t6_0) fun t0_54 => guardM (!isTup t0_54) (M.bind (ld none true t7_1) fun t0_55 => guardM (!isTup t0_55) (M.bind (ld none true t8_2) fun t0_56 => guardM (!isTup t0_56) (M.pure (.tup [t0_54, t0_55, t0_56])))))
 (M.bind (ld (some 7) true t6_0) fun t0_57 => guardM (!isTup t0_57) (M.bind (ld none true t7_1) fun t0_58 => guardM (!isTup t0_58) (M.bind (ld none true t8_2) fun t0_59 => guardM (!isTup t0_59) (M.pure (.tup [t0_57, t0_58, t0_59]))))))) := by
 rw [C, u02 _ _ rfl]; kernel_rfl
theorem u9t (a0 : PV) : C u22 [a0] =
 trunc (M.bind (al [(.int .i64 0), (.bool false), (.int .i64 0), (.bool false), (.int .u64 0), (.int .u64 0), (.bool false)]) fun t2_0 =>
 M.bind (C u2c [(strip (strip a0))]) fun t5_1 =>
 M.bind (bd [(.int .i64 0), (.bool false), (.int .i64 0), (.bool false), (.int .u64 0), (.int .u64 0), (.bool false)] [(0, 3, t5_1)]) fun t6_2 =>
 M.bind (al [(.int .i64 0), (.bool false), (.int .i64 0), (.bool false), (.int .u64 0), (.int .u64 0), (.bool false)]) fun t3_3 =>
 M.bind (st 7 true t3_3 t6_2) fun _ =>
 M.bind (C u0u [(strip (strip a0))]) fun t8_5 =>
 M.bind (fa 3 t3_3) fun t9_6 =>
 M.bind (st 4 true t9_6 t8_5) fun _ =>
 M.bind (ld (some 7) true t3_3) fun t10_8 =>
 M.bind (st 7 true t2_0 t10_8) fun _ =>
 M.bind (ld (some 7) true t2_0) fun t0_10 => guardM (!isTup t0_10) (M.pure t0_10)) := by
 rw [C, u02 _ _ rfl]; kernel_rfl
theorem u6p (a0 : PV) : C u1e [a0] =
 trunc (M.bind (al [(.int .i64 0), (.bool false), (.int .i64 0), (.bool false), (.int .u64 0), (.int .u64 0), (.bool false)]) fun t2_0 =>
 M.bind (C u0h [(strip (strip a0)), (.bool false), (.bool false)]) fun t5_1 =>
 M.bind (al [(.int .i64 0), (.bool false), (.int .i64 0)]) fun t3_2 =>
 M.bind (st 3 true t3_2 t5_1) fun _ =>
 chk
 (M.bind (noPan (M.pure (strip a0))) fun t7_9 =>
 M.bind (noPan (C u18 [(strip t7_9)])) fun t8_10 =>
 M.bind (noPan (ld (some 3) false t3_2)) fun t6_11 =>
 M.bind (noPan (bd [(.int .i64 0), (.bool false), (.int .i64 0), (.bool false), (.int .u64 0), (.int .u64 0), (.bool false)] [(0, 3, t6_11), (3, 4, t8_10)])) fun t9_12 =>
 M.bind (noPan (st 7 true t2_0 t9_12)) fun _ =>
 M.pure [a0, .undef, t2_0, t3_2, (strip a0), (strip t5_1), t6_11, t7_9, t8_10, (strip t9_12)])
 (M.bind (noPan (M.pure (strip a0))) fun t7_4 =>
 M.bind (noPan (ld (some 3) false t3_2)) fun t6_5 =>
 M.bind (noPan (C u18 [(strip t7_4)])) fun t8_6 =>
 M.bind (noPan (bd [(.int .i64 0), (.bool false), (.int .i64 0), (.bool false), (.int .u64 0), (.int .u64 0), (.bool false)] [(0, 3, t6_5), (3, 4, t8_6)])) fun t9_7 =>
 M.bind (noPan (st 7 true t2_0 t9_7)) fun _ =>
 M.pure [a0, .undef, t2_0, t3_2, (strip a0), (strip t5_1), t6_5, t7_4, t8_6, (strip t9_7)]) <|
 M.bind (noPan (M.pure (strip a0))) fun t7_14 =>
 M.bind (noPan (ld (some 3) false t3_2)) fun t6_15 =>
 M.bind (noPan (C u18 [(strip t7_14)])) fun t8_16 =>
 M.bind (noPan (bd [(.int .i64 0), (.bool false), (.int .i64 0), (.bool false), (.int .u64 0), (.int .u64 0), (.bool false)] [(0, 3, t6_15), (3, 4, t8_16)])) fun t9_17 =>
 M.bind (noPan (st 7 true t2_0 t9_17)) fun _ =>
 M.bind (ld (some 7) true t2_0) fun t0_19 => guardM (!isTup t0_19) (M.pure t0_19)) := by
 rw [C, u02 _ _ rfl]; kernel_rfl
end Go.Proofs.YthnmienjiangkaaGreatDoor.Pi.Q
namespace Go.Proofs.YthnmienjiangkaaGreatDoor.Pi.Q
open Go Go.Proofs.YthnmienjiangkaaGreatDoor.Pi
theorem u75 (a0 a1 a2 : PV) : C u20 [a0, a1, a2] =
 trunc (M.bind (al [(.int .i64 0), (.bool false), (.int .i64 0), (.bool false)]) fun t6_0 =>
 M.bind (al [(.int .i64 0)]) fun t7_1 =>
 M.bind (al [(.int .i64 0)]) fun t8_2 =>
 M.bind (al [(.int .i64 0), (.bool false), (.int .i64 0), (.bool false)]) fun t9_3 =>
 M.bind (bi .lss .none (strip a1) (.int .i64 0)) fun t12_4 =>
 M.bind (gd (strip t12_4) false (M.pure (strip a1))) fun t14_5 =>
 M.bind (gd (strip t12_4) false (M.pure (strip a0))) fun t15_6 =>
 M.bind (gd (strip t12_4) false (lnL t15_6)) fun t16_7 =>
 M.bind (gd (strip t12_4) false (bi .gtr .none t14_5 t16_7)) fun t17_8 =>
 M.bind (pick (strip t12_4) (.bool true) t17_8) fun t18_9 =>
 condM t18_9
 (M.bind (ld (some 4) true t9_3) fun t19_10 =>
 M.bind (st 4 true t6_0 t19_10) fun _ =>
 M.bind (st 1 false t7_1 (.int .i64 0)) fun _ =>
 M.bind (st 1 false t8_2 (.int .i64 1)) fun _ =>
 M.bind (ld (some 4) true t6_0) fun t0_14 => guardM (!isTup t0_14) (M.bind (ld none true t7_1) fun t0_15 => guardM (!isTup t0_15) (M.bind (ld none true t8_2) fun t0_16 => guardM (!isTup t0_16) (M.pure (.tup [t0_14, t0_15, t0_16])))))
 (M.bind (mf u2j [] [t9_3, t6_0, t7_1, t8_2]) fun t20_17 =>
 guardM (isPtr t6_0 && isPtr t7_1 && isPtr t8_2) <| deferM CD t20_17 []
 (M.bind (bd [(.slice false true 0 []), (.int .i64 0)] [(0, 1, (strip a0)), (1, 1, (strip a1))]) fun t23_18 =>
 M.bind (bx 2 t23_18) fun t24_19 =>
 M.bind (callV P C (strip a2) [(strip (strip t24_19))]) fun t27_20 =>
 M.bind (st 4 true t6_0 t27_20) fun _ =>
 chk
 (M.bind (noPan (M.pure (strip t24_19))) fun t29_30 =>
 M.bind (noPan (nc P t29_30)) fun t30_31 =>
 M.bind (noPan (fa 1 t30_31)) fun t31_32 =>
 M.bind (noPan (ld (some 4) true t6_0)) fun t28_33 =>
 M.bind (noPan (st 4 true t6_0 t28_33)) fun _ =>
 M.bind (noPan (ld none true t31_32)) fun t32_35 =>
 M.bind (noPan (st 1 true t7_1 t32_35)) fun _ =>
 M.bind (noPan (st 1 false t8_2 (.int .i64 0))) fun _ =>
 M.pure [a0, a1, a2, .undef, .undef, .undef, t6_0, t7_1, t8_2, t9_3, t24_19, (strip a1), t12_4, (strip t12_4), t14_5, t15_6, t16_7, t17_8, t18_9, .undef, t20_17, (strip a0), (strip a1), t23_18, (strip t24_19), (strip a2), (strip t24_19), (strip t27_20), (strip t28_33), t29_30, t30_31, t31_32, (strip t32_35)])
 (M.bind (noPan (M.pure (strip t24_19))) fun t29_22 =>
 M.bind (noPan (nc P t29_22)) fun t30_23 =>
 M.bind (noPan (fa 1 t30_23)) fun t31_24 =>
 M.bind (noPan (ld (some 4) true t6_0)) fun t28_25 =>
 M.bind (noPan (ld none true t31_24)) fun t32_26 =>
 M.bind (noPan (st 4 true t6_0 t28_25)) fun _ =>
 M.bind (noPan (st 1 true t7_1 t32_26)) fun _ =>
 M.bind (noPan (st 1 false t8_2 (.int .i64 0))) fun _ =>
 M.pure [a0, a1, a2, .undef, .undef, .undef, t6_0, t7_1, t8_2, t9_3, t24_19, (strip a1), t12_4, (strip t12_4), t14_5, t15_6, t16_7, t17_8, t18_9, .undef, t20_17, (strip a0), (strip a1), t23_18, (strip t24_19), (strip a2), (strip t24_19), (strip t27_20), (strip t28_25), t29_22, t30_23, t31_24, (strip t32_26)]) <|
 chk
 (M.bind (noPan (M.pure (strip t24_19))) fun t29_38 =>
 M.bind (noPan (nc P t29_38)) fun t30_39 =>
 M.bind (noPan (fa 1 t30_39)) fun t31_40 =>
 M.bind (noPan (ld none true t31_40)) fun t32_41 =>
 M.bind (noPan (ld (some 4) true t6_0)) fun t28_42 =>
 M.bind (noPan (st 4 true t6_0 t28_42)) fun _ =>
 M.bind (noPan (st 1 true t7_1 t32_41)) fun _ =>
 M.bind (noPan (st 1 false t8_2 (.int .i64 0))) fun _ =>
 M.pure [a0, a1, a2, .undef, .undef, .undef, t6_0, t7_1, t8_2, t9_3, t24_19, (strip a1), t12_4, (strip t12_4), t14_5, t15_6, t16_7, t17_8, t18_9, .undef, t20_17, (strip a0), (strip a1), t23_18, (strip t24_19), (strip a2), (strip t24_19), (strip t27_20), (strip t28_42), t29_38, t30_39, t31_40, (strip t32_41)])
 (M.bind (noPan (M.pure (strip t24_19))) fun t29_22 =>
 M.bind (noPan (nc P t29_22)) fun t30_23 =>
 M.bind (noPan (fa 1 t30_23)) fun t31_24 =>
 M.bind (noPan (ld (some 4) true t6_0)) fun t28_25 =>
 M.bind (noPan (ld none true t31_24)) fun t32_26 =>
 M.bind (noPan (st 4 true t6_0 t28_25)) fun _ =>
 M.bind (noPan (st 1 true t7_1 t32_26)) fun _ =>
 M.bind (noPan (st 1 false t8_2 (.int .i64 0))) fun _ =>
 M.pure [a0, a1, a2, .undef, .undef, .undef, t6_0, t7_1, t8_2, t9_3, t24_19, (strip a1), t12_4, (strip t12_4), t14_5, t15_6, t16_7, t17_8, t18_9, .undef, t20_17, (strip a0), (strip a1), t23_18, (strip t24_19), (strip a2), (strip t24_19), (strip t27_20), (strip t28_25), t29_22, t30_23, t31_24, (strip t32_26)]) <|
 M.bind (noPan (M.pure (strip t24_19))) fun t29_46 =>
 M.bind (noPan (nc P t29_46)) fun t30_47 =>
 M.bind (noPan (fa 1 t30_47)) fun t31_48 =>
 M.bind (noPan (ld (some 4) true t6_0)) fun t28_49 =>
 M.bind (noPan (ld none true t31_48)) fun t32_50 =>
 M.bind (noPan (st 4 true t6_0 t28_49)) fun _ =>
 M.bind (noPan (st 1 true t7_1 t32_50)) fun _ =>
 M.bind (noPan (st 1 false t8_2 (.int .i64 0))) fun _ =>
 M.bind (ld (some 4) true t6_0) fun t0_54 => guardM (!isTup t0_54) (M.bind (ld none true t7_1) fun t0_55 => guardM (!isTup t0_55) (M.bind (ld none true t8_2) fun t0_56 => guardM (!isTup t0_56) (M.pure (.tup [t0_54, t0_55, t0_56])))))
 (M.bind (ld (some 4) true t6_0) fun t0_57 => guardM (!isTup t0_57) (M.bind (ld none true t7_1) fun t0_58 => guardM (!isTup t0_58) (M.bind (ld none true t8_2) fun t0_59 => guardM (!isTup t0_59) (M.pure (.tup [t0_57, t0_58, t0_59]))))))) := by
 rw [C, u02 _ _ rfl]; kernel_rfl
theorem u98 (a0 : PV) : C u1v [a0] =
 trunc (M.bind (al [(.int .i64 0), (.bool false), (.int .i64 0), (.bool false)]) fun t2_0 =>
 M.bind (C u3c [(strip (strip a0))]) fun t5_1 =>
 M.bind (bd [(.int .i64 0), (.bool false), (.int .i64 0), (.bool false)] [(0, 3, t5_1)]) fun t6_2 =>
 M.bind (al [(.int .i64 0), (.bool false), (.int .i64 0), (.bool false)]) fun t3_3 =>
 M.bind (st 4 true t3_3 t6_2) fun _ =>
 M.bind (C u0g [(strip (strip a0)), (.int .u8 1)]) fun t8_5 =>
 M.bind (bi .eql .none t8_5 (.int .u8 1)) fun t9_6 =>
 M.bind (fa 3 t3_3) fun t10_7 =>
 M.bind (st 1 true t10_7 t9_6) fun _ =>
 M.bind (ld (some 4) true t3_3) fun t11_9 =>
 M.bind (st 4 true t2_0 t11_9) fun _ =>
 M.bind (ld (some 4) true t2_0) fun t0_11 => guardM (!isTup t0_11) (M.pure t0_11)) := by
 rw [C, u02 _ _ rfl]; kernel_rfl
theorem u6h (a0 : PV) : C u1c [a0] =
 trunc (M.bind (al [(.int .i64 0), (.bool false), (.int .i64 0), (.bool false)]) fun t2_0 =>
 M.bind (C u0h [(strip (strip a0)), (.bool true), (.bool false)]) fun t5_1 =>
 M.bind (al [(.int .i64 0), (.bool false), (.int .i64 0)]) fun t3_2 =>
 M.bind (st 3 true t3_2 t5_1) fun _ =>
 M.bind (nc P (strip a0)) fun t7_4 =>
 M.bind (fa 3 t7_4) fun t8_5 =>
 M.bind (ld none false t8_5) fun t9_6 =>
 M.bind (bi .neq .none t9_6 (.int .i64 0)) fun t10_7 =>
 condM t10_7
 (M.bind (bd [(.int .i64 0), (.bool false), (.int .i64 0), (.bool false)] []) fun t11_8 =>
 M.bind (st 4 true t2_0 t11_8) fun _ =>
 M.bind (ld (some 4) true t2_0) fun t0_10 => guardM (!isTup t0_10) (M.pure t0_10))
 (chk
 (M.bind (noPan (M.pure (strip a0))) fun t13_17 =>
 M.bind (noPan (C u01 [(strip t13_17), (.int .u8 1)])) fun t14_18 =>
 M.bind (noPan (bi .eql .none t14_18 (.int .u8 1))) fun t15_19 =>
 M.bind (noPan (ld (some 3) false t3_2)) fun t12_20 =>
 M.bind (noPan (bd [(.int .i64 0), (.bool false), (.int .i64 0), (.bool false)] [(0, 3, t12_20), (3, 1, t15_19)])) fun t16_21 =>
 M.bind (noPan (st 4 true t2_0 t16_21)) fun _ =>
 M.pure [a0, .undef, t2_0, t3_2, (strip a0), (strip t5_1), (strip a0), t7_4, t8_5, t9_6, t10_7, .undef, t12_20, t13_17, t14_18, t15_19, (strip t16_21)])
 (M.bind (noPan (M.pure (strip a0))) fun t13_11 =>
 M.bind (noPan (ld (some 3) false t3_2)) fun t12_12 =>
 M.bind (noPan (C u01 [(strip t13_11), (.int .u8 1)])) fun t14_13 =>
 M.bind (noPan (bi .eql .none t14_13 (.int .u8 1))) fun t15_14 =>
 M.bind (noPan (bd [(.int .i64 0), (.bool false), (.int .i64 0), (.bool false)] [(0, 3, t12_12), (3, 1, t15_14)])) fun t16_15 =>
 M.bind (noPan (st 4 true t2_0 t16_15)) fun _ =>
 M.pure [a0, .undef, t2_0, t3_2, (strip a0), (strip t5_1), (strip a0), t7_4, t8_5, t9_6, t10_7, .undef, t12_12, t13_11, t14_13, t15_14, (strip t16_15)]) <|
 M.bind (noPan (M.pure (strip a0))) fun t13_23 =>
 M.bind (noPan (ld (some 3) false t3_2)) fun t12_24 =>
 M.bind (noPan (C u01 [(strip t13_23), (.int .u8 1)])) fun t14_25 =>
 M.bind (noPan (bi .eql .none t14_25 (.int .u8 1))) fun t15_26 =>
 M.bind (noPan (bd [(.int .i64 0), (.bool false), (.int .i64 0), (.bool false)] [(0, 3, t12_24), (3, 1, t15_26)])) fun t16_27 =>
 M.bind (noPan (st 4 true t2_0 t16_27)) fun _ =>
 M.bind (ld (some 4) true t2_0) fun t0_29 => guardM (!isTup t0_29) (M.pure t0_29))) := by
 rw [C, u02 _ _ rfl]; kernel_rfl
theorem ucl (a0 a1 a2 : PV) : C u58 [a0, a1, a2] =
 trunc (M.bind (al [(.int .i64 0)]) fun t6_0 =>
 M.bind (al [(.int .i64 0)]) fun t7_1 =>
 M.bind (al [(.int .i64 0)]) fun t8_2 =>
 M.bind (al [(.int .i64 0)]) fun t9_3 =>
 M.bind (bi .lss .none (strip a1) (.int .i64 0)) fun t12_4 =>
 M.bind (gd (strip t12_4) false (M.pure (strip a1))) fun t14_5 =>
 M.bind (gd (strip t12_4) false (M.pure (strip a0))) fun t15_6 =>
 M.bind (gd (strip t12_4) false (lnL t15_6)) fun t16_7 =>
 M.bind (gd (strip t12_4) false (bi .gtr .none t14_5 t16_7)) fun t17_8 =>
 M.bind (pick (strip t12_4) (.bool true) t17_8) fun t18_9 =>
 condM t18_9
 (M.bind (ld none true t9_3) fun t19_10 =>
 M.bind (st 1 true t6_0 t19_10) fun _ =>
 M.bind (st 1 false t7_1 (.int .i64 0)) fun _ =>
 M.bind (st 1 false t8_2 (.int .i64 1)) fun _ =>
 M.bind (ld none true t6_0) fun t0_14 => guardM (!isTup t0_14) (M.bind (ld none true t7_1) fun t0_15 => guardM (!isTup t0_15) (M.bind (ld none true t8_2) fun t0_16 => guardM (!isTup t0_16) (M.pure (.tup [t0_14, t0_15, t0_16])))))
 (M.bind (mf u5x [] [t9_3, t6_0, t7_1, t8_2]) fun t20_17 =>
 guardM (isPtr t6_0 && isPtr t7_1 && isPtr t8_2) <| deferM CD t20_17 []
 (M.bind (bd [(.slice false true 0 []), (.int .i64 0)] [(0, 1, (strip a0)), (1, 1, (strip a1))]) fun t23_18 =>
 M.bind (bx 2 t23_18) fun t24_19 =>
 M.bind (callV P C (strip a2) [(strip (strip t24_19))]) fun t27_20 =>
 M.bind (st 1 true t6_0 t27_20) fun _ =>
 chk
 (M.bind (noPan (M.pure (strip t24_19))) fun t29_30 =>
 M.bind (noPan (nc P t29_30)) fun t30_31 =>
 M.bind (noPan (fa 1 t30_31)) fun t31_32 =>
 M.bind (noPan (ld none true t6_0)) fun t28_33 =>
 M.bind (noPan (st 1 true t6_0 t28_33)) fun _ =>
 M.bind (noPan (ld none true t31_32)) fun t32_35 =>
 M.bind (noPan (st 1 true t7_1 t32_35)) fun _ =>
 M.bind (noPan (st 1 false t8_2 (.int .i64 0))) fun _ =>
 M.pure [a0, a1, a2, .undef, .undef, .undef, t6_0, t7_1, t8_2, t9_3, t24_19, (strip a1), t12_4, (strip t12_4), t14_5, t15_6, t16_7, t17_8, t18_9, .undef, t20_17, (strip a0), (strip a1), t23_18, (strip t24_19), (strip a2), (strip t24_19), (strip t27_20), (strip t28_33), t29_30, t30_31, t31_32, (strip t32_35)])
 (M.bind (noPan (M.pure (strip t24_19))) fun t29_22 =>
 M.bind (noPan (nc P t29_22)) fun t30_23 =>
 M.bind (noPan (fa 1 t30_23)) fun t31_24 =>
 M.bind (noPan (ld none true t6_0)) fun t28_25 =>
 M.bind (noPan (ld none true t31_24)) fun t32_26 =>
 M.bind (noPan (st 1 true t6_0 t28_25)) fun _ =>
 M.bind (noPan (st 1 true t7_1 t32_26)) fun _ =>
 M.bind (noPan (st 1 false t8_2 (.int .i64 0))) fun _ =>
 M.pure [a0, a1, a2, .undef, .undef, .undef, t6_0, t7_1, t8_2, t9_3, t24_19, (strip a1), t12_4, (strip t12_4), t14_5, t15_6, t16_7, t17_8, t18_9, .undef, t20_17, (strip a0), (strip a1), t23_18, (strip t24_19), (strip a2), (strip t24_19), (strip t27_20), (strip t28_25), t29_22, t30_23, t31_24, (strip t32_26)]) <|
 chk
 (M.bind (noPan (M.pure (strip t24_19))) fun t29_38 =>
 M.bind (noPan (nc P t29_38)) fun t30_39 =>
 M.bind (noPan (fa 1 t30_39)) fun t31_40 =>
 M.bind (noPan (ld none true t31_40)) fun t32_41 =>
 M.bind (noPan (ld none true t6_0)) fun t28_42 =>
 M.bind (noPan (st 1 true t6_0 t28_42)) fun _ =>
 M.bind (noPan (st 1 true t7_1 t32_41)) fun _ =>
 M.bind (noPan (st 1 false t8_2 (.int .i64 0))) fun _ =>
 M.pure [a0, a1, a2, .undef, .undef, .undef, t6_0, t7_1, t8_2, t9_3, t24_19, (strip a1), t12_4, (strip t12_4), t14_5, t15_6, t16_7, t17_8, t18_9, .undef, t20_17, (strip a0), (strip a1), t23_18, (strip t24_19), (strip a2), (strip t24_19), (strip t27_20), (strip t28_42), t29_38, t30_39, t31_40, (strip t32_41)])
 (M.bind (noPan (M.pure (strip t24_19))) fun t29_22 =>
 M.bind (noPan (nc P t29_22)) fun t30_23 =>
 M.bind (noPan (fa 1 t30_23)) fun t31_24 =>
 M.bind (noPan (ld none true t6_0)) fun t28_25 =>
 M.bind (noPan (ld none true t31_24)) fun t32_26 =>
 M.bind (noPan (st 1 true t6_0 t28_25)) fun _ =>
 M.bind (noPan (st 1 true t7_1 t32_26)) fun _ =>
 M.bind (noPan (st 1 false t8_2 (.int .i64 0))) fun _ =>
 M.pure [a0, a1, a2, .undef, .undef, .undef, t6_0, t7_1, t8_2, t9_3, t24_19, (strip a1), t12_4, (strip t12_4), t14_5, t15_6, t16_7, t17_8, t18_9, .undef, t20_17, (strip a0), (strip a1), t23_18, (strip t24_19), (strip a2), (strip t24_19), (strip t27_20), (strip t28_25), t29_22, t30_23, t31_24, (strip t32_26)]) <|
 M.bind (noPan (M.pure (strip t24_19))) fun t29_46 =>
 M.bind (noPan (nc P t29_46)) fun t30_47 =>
 M.bind (noPan (fa 1 t30_47)) fun t31_48 =>
 M.bind (noPan (ld none true t6_0)) fun t28_49 =>
 M.bind (noPan (ld none true t31_48)) fun t32_50 =>
 M.bind (noPan (st 1 true t6_0 t28_49)) fun _ =>
 M.bind (noPan (st 1 true t7_1 t32_50)) fun _ =>
 M.bind (noPan (st 1 false t8_2 (.int .i64 0))) fun _ =>
 M.bind (ld none true t6_0) fun t0_54 => guardM (!isTup t0_54) (M.bind (ld none true t7_1) fun t0_55 => guardM (!isTup t0_55) (M.bind (ld none true t8_2) fun t0_56 => guardM (!isTup t0_56) (M.pure (.tup [t0_54, t0_55, t0_56])))))
 (M.bind (ld none true t6_0) fun t0_57 => guardM (!isTup t0_57) (M.bind (ld none true t7_1) fun t0_58 => guardM (!isTup t0_58) (M.bind (ld none true t8_2) fun t0_59 => guardM (!isTup t0_59) (M.pure (.tup [t0_57, t0_58, t0_59]))))))) := by
 rw [C, u02 _ _ rfl]; kernel_rfl
theorem ubg (a0 : PV) : C u2d [a0] =
 trunc (M.bind (C u0g [(strip (strip a0)), (.int .u8 0)]) fun t4_0 =>
 M.bind (C u21 [(strip (strip a0))]) fun t6_1 =>
 resT t6_1 (M.pure t6_1)) := by
 rw [C, u02 _ _ rfl]; kernel_rfl
noncomputable def u1y (v0 v4 v5 : PV) : M PV := atP P X u01 [1, 1, 1, 1] (mkEnv 38 0 [(0, v0), (4, v4), (5, v5)])
theorem u2w (v0 v4 v5 : PV) : u1y v0 v4 v5 =
 M.bind (nc P (strip v0)) fun t31_0 =>
 M.bind (fa 1 t31_0) fun t32_1 =>
 M.bind (ld none false t32_1) fun t33_2 =>
 M.bind (bi .add .none t33_2 (.int .i64 1)) fun t34_3 =>
 M.bind (nc P (strip v0)) fun t35_4 =>
 M.bind (fa 1 t35_4) fun t36_5 =>
 M.bind (st 1 true t36_5 t34_3) fun _ =>
 resT v5 (M.pure v5) :=
 (u0q P X _ _ _).trans (by kernel_rfl)
theorem u48 (a0 a1 : PV) : C u01 [a0, a1] =
 trunc (M.bind (C u0w [(strip (strip a0))]) fun t9_0 =>
 M.bind (ex 0 t9_0) fun t10_1 =>
 M.bind (ex 1 (tupDrop 0 t9_0)) fun t11_2 =>
 M.bind (un .not (strip t11_2)) fun t13_3 =>
 condM t13_3
 (M.bind (nc P (strip a0)) fun t16_4 =>
 M.bind (fa 0 t16_4) fun t17_5 =>
 M.bind (ld none false t17_5) fun t18_6 =>
 M.bind (lnL t18_6) fun t19_7 =>
 M.bind (C u00 [(strip (strip a0)), (strip t19_7), (.int .i64 3)]) fun t20_8 =>
 M.pure (.int .u8 0))
 (M.bind (bi .gtr .none (strip t10_1) (strip a1)) fun t23_9 =>
 condM t23_9
 (M.bind (nc P (strip a0)) fun t26_10 =>
 M.bind (fa 1 t26_10) fun t27_11 =>
 M.bind (ld none false t27_11) fun t28_12 =>
 M.bind (C u00 [(strip (strip a0)), (strip t28_12), (.int .i64 4)]) fun t29_13 =>
 u1y a0 (.int .u8 0) t10_1)
 (u1y a0 (.int .u8 0) t10_1))) := by
 rw [C, u02 _ _ rfl]; kernel_rfl
theorem u40 (a0 : PV) : C u0k [a0] =
 trunc (M.bind (nc P (strip a0)) fun t6_0 =>
 M.bind (fa 1 t6_0) fun t7_1 =>
 M.bind (ld none true t7_1) fun t8_2 =>
 M.bind (C u03 [(strip (strip a0)), (.int .i64 32), (.bool false)]) fun t10_3 =>
 M.bind (nc P (strip a0)) fun t12_4 =>
 M.bind (fa 3 t12_4) fun t13_5 =>
 M.bind (ld none false t13_5) fun t14_6 =>
 M.bind (bi .eql .none t14_6 (.int .i64 0)) fun t15_7 =>
 M.bind (gd (strip t15_7) true (M.pure (strip t10_3))) fun t17_8 =>
 M.bind (gd (strip t15_7) true (bi .geq .none t17_8 (.int .u64 2147483648))) fun t18_9 =>
 M.bind (pick (strip t15_7) t18_9 (.bool false)) fun t19_10 =>
 condM t19_10
 (M.bind (C u00 [(strip (strip a0)), (strip (strip t8_2)), (.int .i64 2)]) fun t22_11 =>
 M.pure (.int .i64 0))
 (M.bind (cv (.int .i64) true (strip t10_3)) fun t24_12 =>
 resT t24_12 (M.pure t24_12))) := by
 rw [C, u02 _ _ rfl]; kernel_rfl
theorem u8r (a0 a1 a2 : PV) : C u2v [a0, a1, a2] =
 trunc (M.bind (al [(.str ⟨#[]⟩), (.str ⟨#[]⟩), (.int .i64 0), (.int .i64 0), (.int .i64 0), (.bool false), (.int .i64 0), (.bool false), (.int .u64 0), (.int .u64 0), (.bool false), (.bool false), (.int .u64 0), (.int .u64 0), (.bool false), (.int .i64 0), (.bool false), (.int .i64 0), (.bool false)]) fun t6_0 =>
 M.bind (al [(.int .i64 0)]) fun t7_1 =>
 M.bind (al [(.int .i64 0)]) fun t8_2 =>
 M.bind (al [(.str ⟨#[]⟩), (.str ⟨#[]⟩), (.int .i64 0), (.int .i64 0), (.int .i64 0), (.bool false), (.int .i64 0), (.bool false), (.int .u64 0), (.int .u64 0), (.bool false), (.bool false), (.int .u64 0), (.int .u64 0), (.bool false), (.int .i64 0), (.bool false), (.int .i64 0), (.bool false)]) fun t9_3 =>
 M.bind (bi .lss .none (strip a1) (.int .i64 0)) fun t12_4 =>
 M.bind (gd (strip t12_4) false (M.pure (strip a1))) fun t14_5 =>
 M.bind (gd (strip t12_4) false (M.pure (strip a0))) fun t15_6 =>
 M.bind (gd (strip t12_4) false (lnL t15_6)) fun t16_7 =>
 M.bind (gd (strip t12_4) false (bi .gtr .none t14_5 t16_7)) fun t17_8 =>
 M.bind (pick (strip t12_4) (.bool true) t17_8) fun t18_9 =>
 condM t18_9
 (M.bind (ld (some 19) true t9_3) fun t19_10 =>
 M.bind (st 19 true t6_0 t19_10) fun _ =>
 M.bind (st 1 false t7_1 (.int .i64 0)) fun _ =>
 M.bind (st 1 false t8_2 (.int .i64 1)) fun _ =>
 M.bind (ld (some 19) true t6_0) fun t0_14 => guardM (!isTup t0_14) (M.bind (ld none true t7_1) fun t0_15 => guardM (!isTup t0_15) (M.bind (ld none true t8_2) fun t0_16 => guardM (!isTup t0_16) (M.pure (.tup [t0_14, t0_15, t0_16])))))
 (M.bind (mf u3l [] [t9_3, t6_0, t7_1, t8_2]) fun t20_17 =>
 guardM (isPtr t6_0 && isPtr t7_1 && isPtr t8_2) <| deferM CD t20_17 []
 (M.bind (bd [(.slice false true 0 []), (.int .i64 0)] [(0, 1, (strip a0)), (1, 1, (strip a1))]) fun t23_18 =>
 M.bind (bx 2 t23_18) fun t24_19 =>
 M.bind (callV P C (strip a2) [(strip (strip t24_19))]) fun t27_20 =>
 M.bind (st 19 true t6_0 t27_20) fun _ =>
 chk
 (M.bind (noPan (M.pure (strip t24_19))) fun t29_30 =>
 M.bind (noPan (nc P t29_30)) fun t30_31 =>
 M.bind (noPan (fa 1 t30_31)) fun t31_32 =>
 M.bind (noPan (ld (some 19) true t6_0)) fun t28_33 =>
 M.bind (noPan (st 19 true t6_0 t28_33)) fun _ =>
 M.bind (noPan (ld none true t31_32)) fun t32_35 =>
 M.bind (noPan (st 1 true t7_1 t32_35)) fun _ =>
 M.bind (noPan (st 1 false t8_2 (.int .i64 0))) fun _ =>
 M.pure [a0, a1, a2, .undef, .undef, .undef, t6_0, t7_1, t8_2, t9_3, t24_19, (strip a1), t12_4, (strip t12_4), t14_5, t15_6, t16_7, t17_8, t18_9, .undef, t20_17, (strip a0), (strip a1), t23_18, (strip t24_19), (strip a2), (strip t24_19), (strip t27_20), (strip t28_33), t29_30, t30_31, t31_32, (strip t32_35)])
 (M.bind (noPan (M.pure (strip t24_19))) fun t29_22 =>
 M.bind (noPan (nc P t29_22)) fun t30_23 =>
 M.bind (noPan (fa 1 t30_23)) fun t31_24 =>
 M.bind (noPan (ld (some 19) true t6_0)) fun t28_25 =>
 M.bind (noPan (ld none true t31_24)) fun t32_26 =>
 M.bind (noPan (st 19 true t6_0 t28_25)) fun _ =>
 M.bind (noPan (st 1 true t7_1 t32_26)) fun _ =>
 M.bind (noPan (st 1 false t8_2 (.int .i64 0))) fun _ =>
 M.pure [a0, a1, a2, .undef, .undef, .undef, t6_0, t7_1, t8_2, t9_3, t24_19, (strip a1), t12_4, (strip t12_4), t14_5, t15_6, t16_7, t17_8, t18_9, .undef, t20_17, (strip a0), (strip a1), t23_18, (strip t24_19), (strip a2), (strip t24_19), (strip t27_20), (strip t28_25), t29_22, t30_23, t31_24, (strip t32_26)]) <|
 chk
 (M.bind (noPan (M.pure (strip t24_19))) fun t29_38 =>
 M.bind (noPan (nc P t29_38)) fun t30_39 =>
 M.bind (noPan (fa 1 t30_39)) fun t31_40 =>
 M.bind (noPan (ld none true t31_40)) fun t32_41 =>
 M.bind (noPan (ld (some 19) true t6_0)) fun t28_42 =>
 M.bind (noPan (st 19 true t6_0 t28_42)) fun _ =>
 M.bind (noPan (st 1 true t7_1 t32_41)) fun _ =>
 M.bind (noPan (st 1 false t8_2 (.int .i64 0))) fun _ =>
 M.pure [a0, a1, a2, .undef, .undef, .undef, t6_0, t7_1, t8_2, t9_3, t24_19, (strip a1), t12_4, (strip t12_4), t14_5, t15_6, t16_7, t17_8, t18_9, .undef, t20_17, (strip a0), (strip a1), t23_18, (strip t24_19), (strip a2), (strip t24_19), (strip t27_20), (strip t28_42), t29_38, t30_39, t31_40, (strip t32_41)])
 (M.bind (noPan (M.pure (strip t24_19))) fun t29_22 =>
 M.bind (noPan (nc P t29_22)) fun t30_23 =>
 M.bind (noPan (fa 1 t30_23)) fun t31_24 =>
 M.bind (noPan (ld (some 19) true t6_0)) fun t28_25 =>
 M.bind (noPan (ld none true t31_24)) fun t32_26 =>
 M.bind (noPan (st 19 true t6_0 t28_25)) fun _ =>
 M.bind (noPan (st 1 true t7_1 t32_26)) fun _ =>
 M.bind (noPan (st 1 false t8_2 (.int .i64 0))) fun _ =>
 M.pure [a0, a1, a2, .undef, .undef, .undef, t6_0, t7_1, t8_2, t9_3, t24_19, (strip a1), t12_4, (strip t12_4), t14_5, t15_6, t16_7, t17_8, t18_9, .undef, t20_17, (strip a0), (strip a1), t23_18, (strip t24_19), (strip a2), (strip t24_19), (strip t27_20), (strip t28_25), t29_22, t30_23, t31_24, (strip t32_26)]) <|
 M.bind (noPan (M.pure (strip t24_19))) fun t29_46 =>
 M.bind (noPan (nc P t29_46)) fun t30_47 =>
 M.bind (noPan (fa 1 t30_47)) fun t31_48 =>
 M.bind (noPan (ld (some 19) true t6_0)) fun t28_49 =>
 M.bind (noPan (ld none true t31_48)) fun t32_50 =>
 M.bind (noPan (st 19 true t6_0 t28_49)) fun _ =>
 M.bind (noPan (st 1 true t7_1 t32_50)) fun _ =>
 M.bind (noPan (st 1 false t8_2 (.int .i64 0))) fun _ =>
 M.bind (ld (some 19) true t6_0) fun t0_54 => guardM (!isTup t0_54) (M.bind (ld none true t7_1) fun t0_55 => guardM (!isTup t0_55) (M.bind (ld none true t8_2) fun t0_56 => guardM (!isTup t0_56) (M.pure (.tup [t0_54, t0_55, t0_56])))))
 (M.bind (ld (some 19) true t6_0) fun t0_57 => guardM (!isTup t0_57) (M.bind (ld none true t7_1) fun t0_58 => guardM (!isTup t0_58) (M.bind (ld none true t8_2) fun t0_59 => guardM (!isTup t0_59) (M.pure (.tup [t0_57, t0_58, t0_59]))))))) := by
 rw [C, u02 _ _ rfl]; kernel_rfl
noncomputable def u0r (v2 v3 : PV) : M PV := atP P X u1l [1, 1, 1, 1, 1] (mkEnv 49 0 [(2, v2), (3, v3)])
theorem u05 (v2 v3 : PV) : u0r v2 v3 =
 M.bind (ld (some 19) true v3) fun t48_0 =>
 M.bind (st 19 true v2 t48_0) fun _ =>
 M.bind (ld (some 19) true v2) fun t0_2 => guardM (!isTup t0_2) (M.pure t0_2) :=
 (u0q P X _ _ _).trans (by kernel_rfl)
theorem u8i (a0 : PV) : C u1l [a0] =
 trunc (M.bind (al [(.str ⟨#[]⟩), (.str ⟨#[]⟩), (.int .i64 0), (.int .i64 0), (.int .i64 0), (.bool false), (.int .i64 0), (.bool false), (.int .u64 0), (.int .u64 0), (.bool false), (.bool false), (.int .u64 0), (.int .u64 0), (.bool false), (.int .i64 0), (.bool false), (.int .i64 0), (.bool false)]) fun t2_0 =>
 M.bind (C u29 [(strip (strip a0))]) fun t5_1 =>
 M.bind (bd [(.str ⟨#[]⟩), (.str ⟨#[]⟩), (.int .i64 0), (.int .i64 0), (.int .i64 0), (.bool false), (.int .i64 0), (.bool false), (.int .u64 0), (.int .u64 0), (.bool false), (.bool false), (.int .u64 0), (.int .u64 0), (.bool false), (.int .i64 0), (.bool false), (.int .i64 0), (.bool false)] [(0, 1, t5_1)]) fun t6_2 =>
 M.bind (al [(.str ⟨#[]⟩), (.str ⟨#[]⟩), (.int .i64 0), (.int .i64 0), (.int .i64 0), (.bool false), (.int .i64 0), (.bool false), (.int .u64 0), (.int .u64 0), (.bool false), (.bool false), (.int .u64 0), (.int .u64 0), (.bool false), (.int .i64 0), (.bool false), (.int .i64 0), (.bool false)]) fun t3_3 =>
 M.bind (st 19 true t3_3 t6_2) fun _ =>
 M.bind (C u29 [(strip (strip a0))]) fun t8_5 =>
 M.bind (fa 1 t3_3) fun t9_6 =>
 M.bind (st 1 true t9_6 t8_5) fun _ =>
 M.bind (C u0g [(strip (strip a0)), (.int .u8 4)]) fun t11_8 =>
 M.bind (cv (.int .i64) true t11_8) fun t12_9 =>
 M.bind (fa 2 t3_3) fun t13_10 =>
 M.bind (fa 0 t13_10) fun t14_11 =>
 M.bind (st 1 true t14_11 t12_9) fun _ =>
 M.bind (fa 2 t3_3) fun t15_13 =>
 M.bind (fa 0 t15_13) fun t16_14 =>
 M.bind (ld none false t16_14) fun t17_15 =>
 M.bind (bi .eql .none t17_15 (.int .i64 0)) fun t19_16 =>
 condM t19_16
 (M.bind (C u21 [(strip (strip a0))]) fun t21_17 =>
 M.bind (fa 2 t3_3) fun t22_18 =>
 M.bind (fa 1 t22_18) fun t23_19 =>
 M.bind (st 1 true t23_19 t21_17) fun _ =>
 u0r t2_0 t3_3)
 (M.bind (bi .eql .none t17_15 (.int .i64 1)) fun t25_21 =>
 condM t25_21
 (M.bind (C u22 [(strip (strip a0))]) fun t27_22 =>
 M.bind (fa 2 t3_3) fun t28_23 =>
 M.bind (fa 2 t28_23) fun t29_24 =>
 M.bind (st 7 true t29_24 t27_22) fun _ =>
 u0r t2_0 t3_3)
 (M.bind (bi .eql .none t17_15 (.int .i64 2)) fun t31_26 =>
 condM t31_26
 (M.bind (C u0u [(strip (strip a0))]) fun t33_27 =>
 M.bind (fa 2 t3_3) fun t34_28 =>
 M.bind (fa 9 t34_28) fun t35_29 =>
 M.bind (st 4 true t35_29 t33_27) fun _ =>
 u0r t2_0 t3_3)
 (M.bind (bi .eql .none t17_15 (.int .i64 3)) fun t37_31 =>
 condM t37_31
 (M.bind (C u1v [(strip (strip a0))]) fun t39_32 =>
 M.bind (fa 2 t3_3) fun t40_33 =>
 M.bind (fa 13 t40_33) fun t41_34 =>
 M.bind (st 4 true t41_34 t39_32) fun _ =>
 u0r t2_0 t3_3)
 (M.bind (bi .eql .none t17_15 (.int .i64 4)) fun t43_36 =>
 condM t43_36
 (M.bind (C u2d [(strip (strip a0))]) fun t45_37 =>
 M.bind (fa 2 t3_3) fun t46_38 =>
 M.bind (fa 1 t46_38) fun t47_39 =>
 M.bind (st 1 true t47_39 t45_37) fun _ =>
 u0r t2_0 t3_3)
 (u0r t2_0 t3_3)))))) := by
 rw [C, u02 _ _ rfl]; kernel_rfl
theorem u4d (a0 : PV) : C u06 [a0] =
 trunc (M.bind (nc P (strip a0)) fun t7_0 =>
 M.bind (fa 3 t7_0) fun t8_1 =>
 M.bind (ld none false t8_1) fun t9_2 =>
 M.bind (bi .neq .none t9_2 (.int .i64 0)) fun t10_3 =>
 condM t10_3
 (M.pure (.str ⟨#[]⟩))
 (M.bind (noPan (M.pure (strip a0))) fun t12_20 =>
 M.bind (noPan (nc P t12_20)) fun t13_21 =>
 M.bind (noPan (fa 0 t13_21)) fun t14_22 =>
 M.bind (noPan (M.pure (strip a0))) fun t16_23 =>
 M.bind (noPan (nc P t16_23)) fun t17_24 =>
 M.bind (noPan (fa 1 t17_24)) fun t18_25 =>
 M.bind (noPan (ld none false t14_22)) fun t15_26 =>
 M.bind (noPan (ld none false t18_25)) fun t19_27 =>
 M.bind (noPan (C u5c [(strip t15_26), (strip t19_27)])) fun t20_28 =>
 M.bind (noPan (M.pure t20_28)) fun t11_29 =>
 M.bind (noPan (ex 0 t11_29)) fun t21_30 =>
 M.bind (noPan (ex 1 (tupDrop 0 t11_29))) fun t22_31 =>
 M.bind (noPan (ex 2 (tupDrop 1 (tupDrop 0 t11_29)))) fun t23_32 =>
 M.bind (noPan (M.pure t21_30)) fun t3_33 =>
 M.bind (noPan (M.pure t22_31)) fun t4_34 =>
 M.bind (noPan (M.pure t23_32)) fun t5_35 =>
 M.bind (bi .neq .none (strip t5_35) (.int .i64 0)) fun t25_36 =>
 condM t25_36
 (M.bind (C u00 [(strip (strip a0)), (strip (strip t4_34)), (strip (strip t5_35))]) fun t29_37 =>
 M.pure (.str ⟨#[]⟩))
 (M.bind (nc P (strip a0)) fun t32_38 =>
 M.bind (fa 1 t32_38) fun t33_39 =>
 M.bind (st 1 true t33_39 t4_34) fun _ =>
 resT t3_33 (M.pure t3_33)))) := by
 rw [C, u02 _ _ rfl]; kernel_rfl
noncomputable def u0o (v2 v3 : PV) : M PV := atP P X u11 [1, 1, 1, 1] (mkEnv 42 0 [(2, v2), (3, v3)])
theorem u0s (v2 v3 : PV) : u0o v2 v3 =
 M.bind (ld (some 17) true v3) fun t41_0 =>
 M.bind (st 17 true v2 t41_0) fun _ =>
 M.bind (ld (some 17) true v2) fun t0_2 => guardM (!isTup t0_2) (M.pure t0_2) :=
 (u0q P X _ _ _).trans (by kernel_rfl)
theorem u6g (a0 : PV) : C u11 [a0] =
 trunc (M.bind (al [(.int .i64 0), (.int .i64 0), (.int .i64 0), (.bool false), (.int .i64 0), (.bool false), (.int .u64 0), (.int .u64 0), (.bool false), (.bool false), (.int .u64 0), (.int .u64 0), (.bool false), (.int .i64 0), (.bool false), (.int .i64 0), (.bool false)]) fun t2_0 =>
 M.bind (C u01 [(strip (strip a0)), (.int .u8 4)]) fun t5_1 =>
 M.bind (cv (.int .i64) true t5_1) fun t6_2 =>
 M.bind (bd [(.int .i64 0), (.int .i64 0), (.int .i64 0), (.bool false), (.int .i64 0), (.bool false), (.int .u64 0), (.int .u64 0), (.bool false), (.bool false), (.int .u64 0), (.int .u64 0), (.bool false), (.int .i64 0), (.bool false), (.int .i64 0), (.bool false)] [(0, 1, t6_2)]) fun t7_3 =>
 M.bind (al [(.int .i64 0), (.int .i64 0), (.int .i64 0), (.bool false), (.int .i64 0), (.bool false), (.int .u64 0), (.int .u64 0), (.bool false), (.bool false), (.int .u64 0), (.int .u64 0), (.bool false), (.int .i64 0), (.bool false), (.int .i64 0), (.bool false)]) fun t3_4 =>
 M.bind (st 17 true t3_4 t7_3) fun _ =>
 M.bind (nc P (strip a0)) fun t9_6 =>
 M.bind (fa 3 t9_6) fun t10_7 =>
 M.bind (ld none false t10_7) fun t11_8 =>
 M.bind (bi .neq .none t11_8 (.int .i64 0)) fun t12_9 =>
 condM t12_9
 (M.bind (ld (some 17) true t3_4) fun t13_10 =>
 M.bind (st 17 true t2_0 t13_10) fun _ =>
 M.bind (ld (some 17) true t2_0) fun t0_12 => guardM (!isTup t0_12) (M.pure t0_12))
 (M.bind (fa 0 t3_4) fun t14_13 =>
 M.bind (ld none false t14_13) fun t15_14 =>
 M.bind (bi .eql .none t15_14 (.int .i64 0)) fun t22_15 =>
 condM t22_15
 (M.bind (C u0k [(strip (strip a0))]) fun t24_16 =>
 M.bind (fa 1 t3_4) fun t25_17 =>
 M.bind (st 1 true t25_17 t24_16) fun _ =>
 u0o t2_0 t3_4)
 (M.bind (bi .eql .none t15_14 (.int .i64 1)) fun t27_19 =>
 condM t27_19
 (M.bind (C u1e [(strip (strip a0))]) fun t29_20 =>
 M.bind (fa 2 t3_4) fun t30_21 =>
 M.bind (st 7 true t30_21 t29_20) fun _ =>
 u0o t2_0 t3_4)
 (M.bind (bi .eql .none t15_14 (.int .i64 2)) fun t32_23 =>
 condM t32_23
 (M.bind (C u0e [(strip (strip a0))]) fun t34_24 =>
 M.bind (fa 9 t3_4) fun t35_25 =>
 M.bind (st 4 true t35_25 t34_24) fun _ =>
 u0o t2_0 t3_4)
 (M.bind (bi .eql .none t15_14 (.int .i64 3)) fun t37_27 =>
 condM t37_27
 (M.bind (C u1c [(strip (strip a0))]) fun t39_28 =>
 M.bind (fa 13 t3_4) fun t40_29 =>
 M.bind (st 4 true t40_29 t39_28) fun _ =>
 u0o t2_0 t3_4)
 (M.bind (C u01 [(strip (strip a0)), (.int .u8 0)]) fun t17_31 =>
 M.bind (C u0k [(strip (strip a0))]) fun t19_32 =>
 M.bind (fa 1 t3_4) fun t20_33 =>
 M.bind (st 1 true t20_33 t19_32) fun _ =>
 u0o t2_0 t3_4)))))) := by
 rw [C, u02 _ _ rfl]; kernel_rfl
theorem u8l (a0 a1 a2 : PV) : C u2s [a0, a1, a2] =
 trunc (M.bind (al [(.str ⟨#[]⟩), (.int .i64 0), (.int .u32 0)]) fun t6_0 =>
 M.bind (al [(.int .i64 0)]) fun t7_1 =>
 M.bind (al [(.int .i64 0)]) fun t8_2 =>
 M.bind (al [(.str ⟨#[]⟩), (.int .i64 0), (.int .u32 0)]) fun t9_3 =>
 M.bind (bi .lss .none (strip a1) (.int .i64 0)) fun t12_4 =>
 M.bind (gd (strip t12_4) false (M.pure (strip a1))) fun t14_5 =>
 M.bind (gd (strip t12_4) false (M.pure (strip a0))) fun t15_6 =>
 M.bind (gd (strip t12_4) false (lnL t15_6)) fun t16_7 =>
 M.bind (gd (strip t12_4) false (bi .gtr .none t14_5 t16_7)) fun t17_8 =>
 M.bind (pick (strip t12_4) (.bool true) t17_8) fun t18_9 =>
 condM t18_9
 (M.bind (ld (some 3) true t9_3) fun t19_10 =>
 M.bind (st 3 true t6_0 t19_10) fun _ =>
 M.bind (st 1 false t7_1 (.int .i64 0)) fun _ =>
 M.bind (st 1 false t8_2 (.int .i64 1)) fun _ =>
 M.bind (ld (some 3) true t6_0) fun t0_14 => guardM (!isTup t0_14) (M.bind (ld none true t7_1) fun t0_15 => guardM (!isTup t0_15) (M.bind (ld none true t8_2) fun t0_16 => guardM (!isTup t0_16) (M.pure (.tup [t0_14, t0_15, t0_16])))))
 (M.bind (mf u3m [] [t9_3, t6_0, t7_1, t8_2]) fun t20_17 =>
 guardM (isPtr t6_0 && isPtr t7_1 && isPtr t8_2) <| deferM CD t20_17 []
 (M.bind (bd [(.slice false true 0 []), (.int .i64 0)] [(0, 1, (strip a0)), (1, 1, (strip a1))]) fun t23_18 =>
 M.bind (bx 2 t23_18) fun t24_19 =>
 M.bind (callV P C (strip a2) [(strip (strip t24_19))]) fun t27_20 =>
 M.bind (st 3 true t6_0 t27_20) fun _ =>
 chk
 (M.bind (noPan (M.pure (strip t24_19))) fun t29_30 =>
 M.bind (noPan (nc P t29_30)) fun t30_31 =>
 M.bind (noPan (fa 1 t30_31)) fun t31_32 =>
 M.bind (noPan (ld (some 3) true t6_0)) fun t28_33 =>
 M.bind (noPan (st 3 true t6_0 t28_33)) fun _ =>
 M.bind (noPan (ld none true t31_32)) fun t32_35 =>
 M.bind (noPan (st 1 true t7_1 t32_35)) fun _ =>
 M.bind (noPan (st 1 false t8_2 (.int .i64 0))) fun _ =>
 M.pure [a0, a1, a2, .undef, .undef, .undef, t6_0, t7_1, t8_2, t9_3, t24_19, (strip a1), t12_4, (strip t12_4), t14_5, t15_6, t16_7, t17_8, t18_9, .undef, t20_17, (strip a0), (strip a1), t23_18, (strip t24_19), (strip a2), (strip t24_19), (strip t27_20), (strip t28_33), t29_30, t30_31, t31_32, (strip t32_35)])
 (M.bind (noPan (M.pure (strip t24_19))) fun t29_22 =>
 M.bind (noPan (nc P t29_22)) fun t30_23 =>
 M.bind (noPan (fa 1 t30_23)) fun t31_24 =>
 M.bind (noPan (ld (some 3) true t6_0)) fun t28_25 =>
 M.bind (noPan (ld none true t31_24)) fun t32_26 =>
 M.bind (noPan (st 3 true t6_0 t28_25)) fun _ =>
 M.bind (noPan (st 1 true t7_1 t32_26)) fun _ =>
 M.bind (noPan (st 1 false t8_2 (.int .i64 0))) fun _ =>
 M.pure [a0, a1, a2, .undef, .undef, .undef, t6_0, t7_1, t8_2, t9_3, t24_19, (strip a1), t12_4, (strip t12_4), t14_5, t15_6, t16_7, t17_8, t18_9, .undef, t20_17, (strip a0), (strip a1), t23_18, (strip t24_19), (strip a2), (strip t24_19), (strip t27_20), (strip t28_25), t29_22, t30_23, t31_24, (strip t32_26)]) <|
 chk
 (M.bind (noPan (M.pure (strip t24_19))) fun t29_38 =>
 M.bind (noPan (nc P t29_38)) fun t30_39 =>
 M.bind (noPan (fa 1 t30_39)) fun t31_40 =>
 M.bind (noPan (ld none true t31_40)) fun t32_41 =>
 M.bind (noPan (ld (some 3) true t6_0)) fun t28_42 =>
 M.bind (noPan (st 3 true t6_0 t28_42)) fun _ =>
 M.bind (noPan (st 1 true t7_1 t32_41)) fun _ =>
 M.bind (noPan (st 1 false t8_2 (.int .i64 0))) fun _ =>
 M.pure [a0, a1, a2, .undef, .undef, .undef, t6_0, t7_1, t8_2, t9_3, t24_19, (strip a1), t12_4, (strip t12_4), t14_5, t15_6, t16_7, t17_8, t18_9, .undef, t20_17, (strip a0), (strip a1), t23_18, (strip t24_19), (strip a2), (strip t24_19), (strip t27_20), (strip t28_42), t29_38, t30_39, t31_40, (strip t32_41)])
 (M.bind (noPan (M.pure (strip t24_19))) fun t29_22 =>
 M.bind (noPan (nc P t29_22)) fun t30_23 =>
 M.bind (noPan (fa 1 t30_23)) fun t31_24 =>
 M.bind (noPan (ld (some 3) true t6_0)) fun t28_25 =>
 M.bind (noPan (ld none true t31_24)) fun t32_26 =>
 M.bind (noPan (st 3 true t6_0 t28_25)) fun _ =>
 M.bind (noPan (st 1 true t7_1 t32_26)) fun _ =>
 M.bind (noPan (st 1 false t8_2 (.int .i64 0))) fun _ =>
 M.pure [a0, a1, a2, .undef, .undef, .undef, t6_0, t7_1, t8_2, t9_3, t24_19, (strip a1), t12_4, (strip t12_4), t14_5, t15_6, t16_7, t17_8, t18_9, .undef, t20_17, (strip a0), (strip a1), t23_18, (strip t24_19), (strip a2), (strip t24_19), (strip t27_20), (strip t28_25), t29_22, t30_23, t31_24, (strip t32_26)]) <|
 M.bind (noPan (M.pure (strip t24_19))) fun t29_46 =>
 M.bind (noPan (nc P t29_46)) fun t30_47 =>
 M.bind (noPan (fa 1 t30_47)) fun t31_48 =>
 M.bind (noPan (ld (some 3) true t6_0)) fun t28_49 =>
 M.bind (noPan (ld none true t31_48)) fun t32_50 =>
 M.bind (noPan (st 3 true t6_0 t28_49)) fun _ =>
 M.bind (noPan (st 1 true t7_1 t32_50)) fun _ =>
 M.bind (noPan (st 1 false t8_2 (.int .i64 0))) fun _ =>
 M.bind (ld (some 3) true t6_0) fun t0_54 => guardM (!isTup t0_54) (M.bind (ld none true t7_1) fun t0_55 => guardM (!isTup t0_55) (M.bind (ld none true t8_2) fun t0_56 => guardM (!isTup t0_56) (M.pure (.tup [t0_54, t0_55, t0_56])))))
 (M.bind (ld (some 3) true t6_0) fun t0_57 => guardM (!isTup t0_57) (M.bind (ld none true t7_1) fun t0_58 => guardM (!isTup t0_58) (M.bind (ld none true t8_2) fun t0_59 => guardM (!isTup t0_59) (M.pure (.tup [t0_57, t0_58, t0_59]))))))) := by
 rw [C, u02 _ _ rfl]; kernel_rfl
theorem u8n (a0 : PV) : C u1z [a0] =
 trunc (M.bind (al [(.str ⟨#[]⟩), (.int .i64 0), (.int .u32 0)]) fun t2_0 =>
 M.bind (C u29 [(strip (strip a0))]) fun t5_1 =>
 M.bind (bd [(.str ⟨#[]⟩), (.int .i64 0), (.int .u32 0)] [(0, 1, t5_1)]) fun t6_2 =>
 M.bind (al [(.str ⟨#[]⟩), (.int .i64 0), (.int .u32 0)]) fun t3_3 =>
 M.bind (st 3 true t3_3 t6_2) fun _ =>
 M.bind (C u0g [(strip (strip a0)), (.int .u8 4)]) fun t8_5 =>
 M.bind (cv (.int .i64) true t8_5) fun t9_6 =>
 M.bind (fa 1 t3_3) fun t10_7 =>
 M.bind (st 1 true t10_7 t9_6) fun _ =>
 M.bind (C u2e [(strip (strip a0))]) fun t12_9 =>
 M.bind (fa 2 t3_3) fun t13_10 =>
 M.bind (st 1 true t13_10 t12_9) fun _ =>
 M.bind (ld (some 3) true t3_3) fun t14_12 =>
 M.bind (st 3 true t2_0 t14_12) fun _ =>
 M.bind (ld (some 3) true t2_0) fun t0_14 => guardM (!isTup t0_14) (M.pure t0_14)) := by
 rw [C, u02 _ _ rfl]; kernel_rfl
theorem u0p (a0 a1 a2 : PV) : C u03 [a0, a1, a2] =
 trunc (M.bind (nc P (strip a0)) fun t11_0 =>
 M.bind (fa 3 t11_0) fun t12_1 =>
 M.bind (ld none false t12_1) fun t13_2 =>
 M.bind (bi .neq .none t13_2 (.int .i64 0)) fun t14_3 =>
 condM t14_3
 (M.pure (.int .u64 0))
 (M.bind (noPan (M.pure (strip a0))) fun t16_27 =>
 M.bind (noPan (nc P t16_27)) fun t17_28 =>
 M.bind (noPan (fa 0 t17_28)) fun t18_29 =>
 M.bind (noPan (M.pure (strip a0))) fun t20_30 =>
 M.bind (noPan (nc P t20_30)) fun t21_31 =>
 M.bind (noPan (fa 1 t21_31)) fun t22_32 =>
 M.bind (noPan (M.pure (strip a0))) fun t24_33 =>
 M.bind (noPan (nc P t24_33)) fun t25_34 =>
 M.bind (noPan (fa 0 t25_34)) fun t26_35 =>
 M.bind (noPan (M.pure (strip a1))) fun t29_36 =>
 M.bind (noPan (M.pure (strip a2))) fun t30_37 =>
 M.bind (noPan (ld none false t18_29)) fun t19_38 =>
 M.bind (noPan (ld none false t22_32)) fun t23_39 =>
 M.bind (noPan (ld none false t26_35)) fun t27_40 =>
 M.bind (noPan (lnL t27_40)) fun t28_41 =>
 M.bind (noPan (C u09 [(strip t19_38), (strip t23_39), (strip t28_41), (strip t29_36), (strip t30_37)])) fun t31_42 =>
 M.bind (noPan (M.pure t31_42)) fun t15_43 =>
 M.bind (noPan (ex 0 t15_43)) fun t32_44 =>
 M.bind (noPan (ex 1 (tupDrop 0 t15_43))) fun t33_45 =>
 M.bind (noPan (ex 2 (tupDrop 1 (tupDrop 0 t15_43)))) fun t34_46 =>
 M.bind (noPan (M.pure t32_44)) fun t7_47 =>
 M.bind (noPan (M.pure t33_45)) fun t8_48 =>
 M.bind (noPan (M.pure t34_46)) fun t9_49 =>
 M.bind (bi .neq .none (strip t9_49) (.int .i64 0)) fun t36_50 =>
 condM t36_50
 (M.bind (C u00 [(strip (strip a0)), (strip (strip t8_48)), (strip (strip t9_49))]) fun t40_51 =>
 M.pure (.int .u64 0))
 (M.bind (nc P (strip a0)) fun t43_52 =>
 M.bind (fa 1 t43_52) fun t44_53 =>
 M.bind (st 1 true t44_53 t8_48) fun _ =>
 resT t7_47 (M.pure t7_47)))) := by
 rw [C, u02 _ _ rfl]; kernel_rfl
theorem ubr (a0 : PV) : C u7x [a0] =
 trunc (M.bind (bx 3 a0) fun t1_0 =>
 M.bind (mf u6x [] [t1_0]) fun t4_1 =>
 M.bind (C ucg [(strip t4_1)]) fun t5_2 =>
 M.bind (ex 0 t5_2) fun t6_3 =>
 M.bind (ex 1 (tupDrop 0 t5_2)) fun t7_4 =>
 resT t6_3 (resT t7_4 (M.pure (.tup [t6_3, t7_4])))) := by
 rw [C, u02 _ _ rfl]; kernel_rfl
theorem ug1 (a0 : PV) : C ucg [a0] =
 trunc (M.bind (al [(.slice false true 0 [])]) fun t2_0 =>
 M.bind (al [(.int .i64 0)]) fun t3_1 =>
 M.bind (mf u9g [] [t2_0, t3_1]) fun t5_2 =>
 guardM (isPtr t2_0 && isPtr t3_1) <| deferM CD t5_2 []
 (M.bind (bd [(.slice false true 0 [])] []) fun t6_3 =>
 M.bind (bx 1 t6_3) fun t7_4 =>
 M.bind (callV P C (strip a0) [(strip (strip t7_4))]) fun t10_5 =>
 M.bind (nc P (strip t7_4)) fun t12_6 =>
 M.bind (fa 0 t12_6) fun t13_7 =>
 M.bind (ld none true t13_7) fun t14_8 =>
 M.bind (st 1 true t2_0 t14_8) fun _ =>
 M.bind (st 1 false t3_1 (.int .i64 0)) fun _ =>
 M.bind (ld none true t2_0) fun t0_11 => guardM (!isTup t0_11) (M.bind (ld none true t3_1) fun t0_12 => guardM (!isTup t0_12) (M.pure (.tup [t0_11, t0_12]))))
 (M.bind (ld none true t2_0) fun t0_13 => guardM (!isTup t0_13) (M.bind (ld none true t3_1) fun t0_14 => guardM (!isTup t0_14) (M.pure (.tup [t0_13, t0_14]))))) := by
 rw [C, u02 _ _ rfl]; kernel_rfl
theorem ucu (a0 a1 : PV) : C u59 [a0, a1] =
 trunc (M.bind (nc P (strip a0)) fun t6_0 =>
 M.bind (fa 0 t6_0) fun t7_1 =>
 M.bind (ld none true t7_1) fun t8_2 =>
 M.bind (bs true none [(strip a1)]) fun t10_3 =>
 M.bind (ap true 1 1 t8_2 t10_3) fun t11_4 =>
 M.bind (nc P (strip a0)) fun t12_5 =>
 M.bind (fa 0 t12_5) fun t13_6 =>
 M.bind (st 1 true t13_6 t11_4) fun _ =>
 M.pure (.tup [])) := by
 rw [C, u02 _ _ rfl]; kernel_rfl
end Go.Proofs.YthnmienjiangkaaGreatDoor.Pi.Q
namespace Go.Proofs.YthnmienjiangkaaGreatDoor.Pi.Q
open Go Go.Proofs.YthnmienjiangkaaGreatDoor.Pi
theorem u7k (a0 a1 a2 a3 : PV) : CD none u3j [a0, a1, a2, a3] =
 noPan (trunc (M.bind (M.pure .niliface) fun t6_0 =>
 M.bind (bi .neq .iface (strip t6_0) .niliface) fun t8_1 =>
 condM t8_1
 (M.bind (ta u0t (.agg [(.int .i64 0), (.int .i64 0)]) false (strip t6_0)) fun t10_2 =>
 M.bind (al [(.int .i64 0), (.int .i64 0)]) fun t5_3 =>
 M.bind (st 2 true t5_3 t10_2) fun _ =>
 nb (ld (some 4) true a0) fun t11_5 =>
 nb (fa 0 t5_3) fun t12_6 =>
 guardM (!clash (tld t12_6) (tld a0) && true) <| nb (ld none true t12_6) fun t13_7 =>
 nb (fa 1 t5_3) fun t14_8 =>
 guardM (!clash (tld t14_8) (tld t12_6) && (!clash (tld t14_8) (.no) && (!clash (tld t14_8) (tld a0) && true))) <| nb (ld none true t14_8) fun t15_9 =>
 guardM (!clash (tst a1) (tld t14_8) && (!clash (tst a1) (.no) && (!clash (tst a1) (tld t12_6) && (!clash (tst a1) (.no) && true)))) <| M.bind (noPan (st 4 true a1 t11_5)) fun _ =>
 guardM (!clash (tst a2) (tld t14_8) && (!clash (tst a2) (.no) && true)) <| M.bind (noPan (st 1 true a2 t13_7)) fun _ =>
 M.bind (noPan (st 1 true a3 t15_9)) fun _ =>
 M.pure (.tup []))
 (M.pure (.tup [])))) := by
 rw [CD, u31]; kernel_rfl
theorem u7f (r : PV) (a0 a1 a2 a3 : PV) : CD (some r) u3j [a0, a1, a2, a3] =
 noPan (trunc (M.bind (M.pure r) fun t6_0 =>
 M.bind (bi .neq .iface (strip t6_0) .niliface) fun t8_1 =>
 condM t8_1
 (M.bind (ta u0t (.agg [(.int .i64 0), (.int .i64 0)]) false (strip t6_0)) fun t10_2 =>
 M.bind (al [(.int .i64 0), (.int .i64 0)]) fun t5_3 =>
 M.bind (st 2 true t5_3 t10_2) fun _ =>
 nb (ld (some 4) true a0) fun t11_5 =>
 nb (fa 0 t5_3) fun t12_6 =>
 guardM (!clash (tld t12_6) (tld a0) && true) <| nb (ld none true t12_6) fun t13_7 =>
 nb (fa 1 t5_3) fun t14_8 =>
 guardM (!clash (tld t14_8) (tld t12_6) && (!clash (tld t14_8) (.no) && (!clash (tld t14_8) (tld a0) && true))) <| nb (ld none true t14_8) fun t15_9 =>
 guardM (!clash (tst a1) (tld t14_8) && (!clash (tst a1) (.no) && (!clash (tst a1) (tld t12_6) && (!clash (tst a1) (.no) && true)))) <| M.bind (noPan (st 4 true a1 t11_5)) fun _ =>
 guardM (!clash (tst a2) (tld t14_8) && (!clash (tst a2) (.no) && true)) <| M.bind (noPan (st 1 true a2 t13_7)) fun _ =>
 M.bind (noPan (st 1 true a3 t15_9)) fun _ =>
 M.pure (.tup []))
 (M.pure (.tup [])))) := by
 rw [CD, u31]; kernel_rfl
noncomputable def u3u (v0 v4 v5 : PV) : M PV := atP P X u0g [1, 1, 1] (mkEnv 25 0 [(0, v0), (4, v4), (5, v5)])
theorem u7g (v0 v4 v5 : PV) : u3u v0 v4 v5 =
 M.bind (nc P (strip v0)) fun t18_0 =>
 M.bind (fa 1 t18_0) fun t19_1 =>
 M.bind (ld none false t19_1) fun t20_2 =>
 M.bind (bi .add .none t20_2 (.int .i64 1)) fun t21_3 =>
 M.bind (nc P (strip v0)) fun t22_4 =>
 M.bind (fa 1 t22_4) fun t23_5 =>
 M.bind (st 1 true t23_5 t21_3) fun _ =>
 resT v5 (M.pure v5) :=
 (u0q P X _ _ _).trans (by kernel_rfl)
theorem ua5 (a0 a1 : PV) : C u0g [a0, a1] =
 trunc (M.bind (C u1b [(strip (strip a0))]) fun t7_0 =>
 M.bind (bi .gtr .none (strip t7_0) (strip a1)) fun t10_1 =>
 condM t10_1
 (M.bind (nc P (strip a0)) fun t13_2 =>
 M.bind (fa 1 t13_2) fun t14_3 =>
 M.bind (ld none false t14_3) fun t15_4 =>
 M.bind (C u0j [(strip (strip a0)), (strip t15_4), (.int .i64 4)]) fun t16_5 =>
 u3u a0 (.int .u8 0) t7_0)
 (u3u a0 (.int .u8 0) t7_0)) := by
 rw [C, u02 _ _ rfl]; kernel_rfl
theorem uar (a0 a1 a2 : PV) : C u0j [a0, a1, a2] =
 trunc (M.bind (bd [(.int .i64 0), (.int .i64 0)] [(0, 1, (strip a1)), (1, 1, (strip a2))]) fun t8_0 =>
 M.bind (mi u0t t8_0) fun t9_1 =>
 M.bind (pn t9_1) fun _ =>
 M.pure (.tup [])) := by
 rw [C, u02 _ _ rfl]; kernel_rfl
theorem u8q (a0 a1 : PV) : C u0n [a0, a1] =
 trunc (M.bind (fa 0 a0) fun t3_0 =>
 M.bind (ld none false t3_0) fun t4_1 =>
 condM t4_1
 (M.bind (ld none false a1) fun t5_2 =>
 M.bind (C u5m [(strip t5_2)]) fun t6_3 =>
 resT t6_3 (M.pure t6_3))
 (M.bind (ld none false a1) fun t7_4 =>
 M.bind (C u2e [(strip t7_4)]) fun t8_5 =>
 M.bind (cv (.int .u64) true t8_5) fun t9_6 =>
 resT t9_6 (M.pure t9_6))) := by
 rw [C, u02 _ _ rfl]; kernel_rfl
theorem ubh (a0 : PV) : C u5m [a0] =
 trunc (M.bind (noPan (M.pure (strip a0))) fun t7_21 =>
 M.bind (noPan (nc P t7_21)) fun t8_22 =>
 M.bind (noPan (fa 0 t8_22)) fun t9_23 =>
 M.bind (noPan (M.pure (strip a0))) fun t11_24 =>
 M.bind (noPan (nc P t11_24)) fun t12_25 =>
 M.bind (noPan (fa 1 t12_25)) fun t13_26 =>
 M.bind (noPan (M.pure (strip a0))) fun t15_27 =>
 M.bind (noPan (nc P t15_27)) fun t16_28 =>
 M.bind (noPan (fa 0 t16_28)) fun t17_29 =>
 M.bind (noPan (ld none false t9_23)) fun t10_30 =>
 M.bind (noPan (ld none false t13_26)) fun t14_31 =>
 M.bind (noPan (ld none false t17_29)) fun t18_32 =>
 M.bind (noPan (lnL t18_32)) fun t19_33 =>
 M.bind (noPan (C ue4 [(strip t10_30), (strip t14_31), (strip t19_33)])) fun t20_34 =>
 M.bind (noPan (M.pure t20_34)) fun t6_35 =>
 M.bind (noPan (ex 0 t6_35)) fun t21_36 =>
 M.bind (noPan (ex 1 (tupDrop 0 t6_35))) fun t22_37 =>
 M.bind (noPan (ex 2 (tupDrop 1 (tupDrop 0 t6_35)))) fun t23_38 =>
 M.bind (noPan (M.pure t21_36)) fun t3_39 =>
 M.bind (noPan (M.pure t22_37)) fun t4_40 =>
 M.bind (noPan (M.pure t23_38)) fun t5_41 =>
 M.bind (C u39 [(strip (strip a0)), (strip (strip t3_39)), (strip (strip t4_40)), (strip (strip t5_41))]) fun t28_42 =>
 resT t28_42 (M.pure t28_42)) := by
 rw [C, u02 _ _ rfl]; kernel_rfl
theorem ubd (a0 : PV) : C u2e [a0] =
 trunc (M.bind (noPan (M.pure (strip a0))) fun t7_21 =>
 M.bind (noPan (nc P t7_21)) fun t8_22 =>
 M.bind (noPan (fa 0 t8_22)) fun t9_23 =>
 M.bind (noPan (M.pure (strip a0))) fun t11_24 =>
 M.bind (noPan (nc P t11_24)) fun t12_25 =>
 M.bind (noPan (fa 1 t12_25)) fun t13_26 =>
 M.bind (noPan (M.pure (strip a0))) fun t15_27 =>
 M.bind (noPan (nc P t15_27)) fun t16_28 =>
 M.bind (noPan (fa 0 t16_28)) fun t17_29 =>
 M.bind (noPan (ld none false t9_23)) fun t10_30 =>
 M.bind (noPan (ld none false t13_26)) fun t14_31 =>
 M.bind (noPan (ld none false t17_29)) fun t18_32 =>
 M.bind (noPan (lnL t18_32)) fun t19_33 =>
 M.bind (noPan (C ucd [(strip t10_30), (strip t14_31), (strip t19_33)])) fun t20_34 =>
 M.bind (noPan (M.pure t20_34)) fun t6_35 =>
 M.bind (noPan (ex 0 t6_35)) fun t21_36 =>
 M.bind (noPan (ex 1 (tupDrop 0 t6_35))) fun t22_37 =>
 M.bind (noPan (ex 2 (tupDrop 1 (tupDrop 0 t6_35)))) fun t23_38 =>
 M.bind (noPan (M.pure t21_36)) fun t3_39 =>
 M.bind (noPan (M.pure t22_37)) fun t4_40 =>
 M.bind (noPan (M.pure t23_38)) fun t5_41 =>
 M.bind (C u3e [(strip (strip a0)), (strip (strip t3_39)), (strip (strip t4_40)), (strip (strip t5_41))]) fun t28_42 =>
 resT t28_42 (M.pure t28_42)) := by
 rw [C, u02 _ _ rfl]; kernel_rfl
theorem u4e (a0 a1 a2 : PV) : C u00 [a0, a1, a2] =
 trunc (M.bind (nc P (strip a0)) fun t7_0 =>
 M.bind (fa 3 t7_0) fun t8_1 =>
 M.bind (ld none false t8_1) fun t9_2 =>
 M.bind (bi .eql .none t9_2 (.int .i64 0)) fun t10_3 =>
 condM t10_3
 (M.bind (nc P (strip a0)) fun t13_4 =>
 M.bind (fa 2 t13_4) fun t14_5 =>
 M.bind (st 1 true t14_5 a1) fun _ =>
 M.bind (nc P (strip a0)) fun t17_7 =>
 M.bind (fa 3 t17_7) fun t18_8 =>
 M.bind (st 1 true t18_8 a2) fun _ =>
 M.pure (.tup []))
 (M.pure (.tup []))) := by
 rw [C, u02 _ _ rfl]; kernel_rfl
theorem u6l (a0 a1 a2 a3 : PV) : CD none u2p [a0, a1, a2, a3] =
 noPan (trunc (M.bind (M.pure .niliface) fun t6_0 =>
 M.bind (bi .neq .iface (strip t6_0) .niliface) fun t8_1 =>
 condM t8_1
 (M.bind (ta u0t (.agg [(.int .i64 0), (.int .i64 0)]) false (strip t6_0)) fun t10_2 =>
 M.bind (al [(.int .i64 0), (.int .i64 0)]) fun t5_3 =>
 M.bind (st 2 true t5_3 t10_2) fun _ =>
 nb (ld (some 7) true a0) fun t11_5 =>
 nb (fa 0 t5_3) fun t12_6 =>
 guardM (!clash (tld t12_6) (tld a0) && true) <| nb (ld none true t12_6) fun t13_7 =>
 nb (fa 1 t5_3) fun t14_8 =>
 guardM (!clash (tld t14_8) (tld t12_6) && (!clash (tld t14_8) (.no) && (!clash (tld t14_8) (tld a0) && true))) <| nb (ld none true t14_8) fun t15_9 =>
 guardM (!clash (tst a1) (tld t14_8) && (!clash (tst a1) (.no) && (!clash (tst a1) (tld t12_6) && (!clash (tst a1) (.no) && true)))) <| M.bind (noPan (st 7 true a1 t11_5)) fun _ =>
 guardM (!clash (tst a2) (tld t14_8) && (!clash (tst a2) (.no) && true)) <| M.bind (noPan (st 1 true a2 t13_7)) fun _ =>
 M.bind (noPan (st 1 true a3 t15_9)) fun _ =>
 M.pure (.tup []))
 (M.pure (.tup [])))) := by
 rw [CD, u31]; kernel_rfl
theorem u6k (r : PV) (a0 a1 a2 a3 : PV) : CD (some r) u2p [a0, a1, a2, a3] =
 noPan (trunc (M.bind (M.pure r) fun t6_0 =>
 M.bind (bi .neq .iface (strip t6_0) .niliface) fun t8_1 =>
 condM t8_1
 (M.bind (ta u0t (.agg [(.int .i64 0), (.int .i64 0)]) false (strip t6_0)) fun t10_2 =>
 M.bind (al [(.int .i64 0), (.int .i64 0)]) fun t5_3 =>
 M.bind (st 2 true t5_3 t10_2) fun _ =>
 nb (ld (some 7) true a0) fun t11_5 =>
 nb (fa 0 t5_3) fun t12_6 =>
 guardM (!clash (tld t12_6) (tld a0) && true) <| nb (ld none true t12_6) fun t13_7 =>
 nb (fa 1 t5_3) fun t14_8 =>
 guardM (!clash (tld t14_8) (tld t12_6) && (!clash (tld t14_8) (.no) && (!clash (tld t14_8) (tld a0) && true))) <| nb (ld none true t14_8) fun t15_9 =>
 guardM (!clash (tst a1) (tld t14_8) && (!clash (tst a1) (.no) && (!clash (tst a1) (tld t12_6) && (!clash (tst a1) (.no) && true)))) <| M.bind (noPan (st 7 true a1 t11_5)) fun _ =>
 guardM (!clash (tst a2) (tld t14_8) && (!clash (tst a2) (.no) && true)) <| M.bind (noPan (st 1 true a2 t13_7)) fun _ =>
 M.bind (noPan (st 1 true a3 t15_9)) fun _ =>
 M.pure (.tup []))
 (M.pure (.tup [])))) := by
 rw [CD, u31]; kernel_rfl
noncomputable def u2m (v0 v2 v3 : PV) : M PV := atP P X u2c [1, 1, 1, 1] (mkEnv 44 0 [(0, v0), (2, v2), (3, v3)])
theorem u4u (v0 v2 v3 : PV) : u2m v0 v2 v3 =
 M.bind (nc P (strip v0)) fun t33_0 =>
 M.bind (fa 1 t33_0) fun t34_1 =>
 M.bind (ld none false t34_1) fun t35_2 =>
 M.bind (bi .add .none t35_2 (.int .i64 1)) fun t36_3 =>
 M.bind (nc P (strip v0)) fun t37_4 =>
 M.bind (fa 1 t37_4) fun t38_5 =>
 M.bind (st 1 true t38_5 t36_3) fun _ =>
 M.bind (bi .eql .none (strip v3) (.int .u8 99)) fun t40_7 =>
 M.bind (C u5f [(strip (strip v0))]) fun t42_8 =>
 M.bind (bd [(.int .i64 0), (.bool false), (.int .i64 0)] [(0, 1, (.int .i64 5)), (1, 1, t40_7), (2, 1, t42_8)]) fun t43_9 =>
 M.bind (st 3 true v2 t43_9) fun _ =>
 M.bind (ld (some 3) true v2) fun t0_11 => guardM (!isTup t0_11) (M.pure t0_11) :=
 (u0q P X _ _ _).trans (by kernel_rfl)
theorem ube (a0 : PV) : C u2c [a0] =
 trunc (M.bind (al [(.int .i64 0), (.bool false), (.int .i64 0)]) fun t2_0 =>
 M.bind (C u1b [(strip (strip a0))]) fun t6_1 =>
 M.bind (C u73 [(strip (strip t6_1))]) fun t8_2 =>
 M.bind (bi .neq .none (strip t8_2) (.int .i64 0)) fun t10_3 =>
 condM t10_3
 (M.bind (nc P (strip a0)) fun t12_4 =>
 M.bind (fa 1 t12_4) fun t13_5 =>
 M.bind (ld none false t13_5) fun t14_6 =>
 M.bind (bi .add .none t14_6 (.int .i64 1)) fun t15_7 =>
 M.bind (nc P (strip a0)) fun t16_8 =>
 M.bind (fa 1 t16_8) fun t17_9 =>
 M.bind (st 1 true t17_9 t15_7) fun _ =>
 M.bind (bd [(.int .i64 0), (.bool false), (.int .i64 0)] [(0, 1, (.int .i64 5)), (1, 1, (.bool true)), (2, 1, (strip t8_2))]) fun t19_11 =>
 M.bind (st 3 true t2_0 t19_11) fun _ =>
 M.bind (ld (some 3) true t2_0) fun t0_13 => guardM (!isTup t0_13) (M.pure t0_13))
 (M.bind (bi .neq .none (strip t6_1) (.int .u8 99)) fun t21_14 =>
 M.bind (gd (strip t21_14) true (M.pure (strip t6_1))) fun t23_15 =>
 M.bind (gd (strip t21_14) true (bi .neq .none t23_15 (.int .u8 100))) fun t24_16 =>
 M.bind (pick (strip t21_14) t24_16 (.bool false)) fun t25_17 =>
 condM t25_17
 (M.bind (nc P (strip a0)) fun t28_18 =>
 M.bind (fa 1 t28_18) fun t29_19 =>
 M.bind (ld none false t29_19) fun t30_20 =>
 M.bind (C u0j [(strip (strip a0)), (strip t30_20), (.int .i64 4)]) fun t31_21 =>
 u2m a0 t2_0 t6_1)
 (u2m a0 t2_0 t6_1))) := by
 rw [C, u02 _ _ rfl]; kernel_rfl
noncomputable def u0v (v0 v6 v9 : PV) : M PV := atP P X u0h [1, 1, 1, 1, 1, 1, 1, 1] (mkEnv 108 0 [(0, v0), (6, v6), (9, v9)])
theorem u12 (v0 v6 v9 : PV) : u0v v0 v6 v9 =
 M.bind (nc P (strip v0)) fun t100_0 =>
 M.bind (fa 1 t100_0) fun t101_1 =>
 M.bind (ld none false t101_1) fun t102_2 =>
 M.bind (bi .add .none t102_2 (.int .i64 1)) fun t103_3 =>
 M.bind (nc P (strip v0)) fun t104_4 =>
 M.bind (fa 1 t104_4) fun t105_5 =>
 M.bind (st 1 true t105_5 t103_3) fun _ =>
 M.bind (bd [(.int .i64 0), (.bool false), (.int .i64 0)] [(0, 1, (strip v9))]) fun t107_7 =>
 M.bind (st 3 true v6 t107_7) fun _ =>
 M.bind (ld (some 3) true v6) fun t0_9 => guardM (!isTup t0_9) (M.pure t0_9) :=
 (u0q P X _ _ _).trans (by kernel_rfl)
theorem u4l (a0 a1 a2 : PV) : C u0h [a0, a1, a2] =
 trunc (M.bind (al [(.int .i64 0), (.bool false), (.int .i64 0)]) fun t6_0 =>
 M.bind (C u0w [(strip (strip a0))]) fun t12_1 =>
 M.bind (ex 0 t12_1) fun t13_2 =>
 M.bind (ex 1 (tupDrop 0 t12_1)) fun t14_3 =>
 M.bind (un .not (strip t14_3)) fun t16_4 =>
 condM t16_4
 (M.bind (nc P (strip a0)) fun t19_5 =>
 M.bind (fa 0 t19_5) fun t20_6 =>
 M.bind (ld none false t20_6) fun t21_7 =>
 M.bind (lnL t21_7) fun t22_8 =>
 M.bind (C u00 [(strip (strip a0)), (strip t22_8), (.int .i64 3)]) fun t23_9 =>
 M.bind (bd [(.int .i64 0), (.bool false), (.int .i64 0)] []) fun t24_10 =>
 M.bind (st 3 true t6_0 t24_10) fun _ =>
 M.bind (ld (some 3) true t6_0) fun t0_12 => guardM (!isTup t0_12) (M.pure t0_12))
 (M.bind (bi .eql .none (strip t13_2) (.int .u8 99)) fun t26_13 =>
 M.bind (gd (strip t26_13) false (M.pure (strip t13_2))) fun t28_14 =>
 M.bind (gd (strip t26_13) false (bi .eql .none t28_14 (.int .u8 100))) fun t29_15 =>
 M.bind (pick (strip t26_13) (.bool true) t29_15) fun t30_16 =>
 condM t30_16
 (M.bind (nc P (strip a0)) fun t32_17 =>
 M.bind (fa 1 t32_17) fun t33_18 =>
 M.bind (ld none false t33_18) fun t34_19 =>
 M.bind (bi .add .none t34_19 (.int .i64 1)) fun t35_20 =>
 M.bind (nc P (strip a0)) fun t36_21 =>
 M.bind (fa 1 t36_21) fun t37_22 =>
 M.bind (st 1 true t37_22 t35_20) fun _ =>
 M.bind (bi .eql .none (strip t13_2) (.int .u8 99)) fun t39_24 =>
 M.bind (C u19 [(strip (strip a0))]) fun t41_25 =>
 M.bind (bd [(.int .i64 0), (.bool false), (.int .i64 0)] [(0, 1, (.int .i64 5)), (1, 1, t39_24), (2, 1, t41_25)]) fun t42_26 =>
 M.bind (st 3 true t6_0 t42_26) fun _ =>
 M.bind (ld (some 3) true t6_0) fun t0_28 => guardM (!isTup t0_28) (M.pure t0_28))
 (M.bind (C u1m [(strip (strip t13_2))]) fun t44_29 =>
 M.bind (bi .neq .none t44_29 (.int .i64 0)) fun t45_30 =>
 condM t45_30
 (M.bind (nc P (strip a0)) fun t47_31 =>
 M.bind (fa 1 t47_31) fun t48_32 =>
 M.bind (ld none false t48_32) fun t49_33 =>
 M.bind (bi .add .none t49_33 (.int .i64 1)) fun t50_34 =>
 M.bind (nc P (strip a0)) fun t51_35 =>
 M.bind (fa 1 t51_35) fun t52_36 =>
 M.bind (st 1 true t52_36 t50_34) fun _ =>
 M.bind (C u1m [(strip (strip t13_2))]) fun t54_38 =>
 M.bind (bd [(.int .i64 0), (.bool false), (.int .i64 0)] [(0, 1, (.int .i64 5)), (1, 1, (.bool true)), (2, 1, t54_38)]) fun t55_39 =>
 M.bind (st 3 true t6_0 t55_39) fun _ =>
 M.bind (ld (some 3) true t6_0) fun t0_41 => guardM (!isTup t0_41) (M.pure t0_41))
 (M.bind (gd (strip (strip a1)) true (M.pure (strip t13_2))) fun t58_42 =>
 M.bind (gd (strip (strip a1)) true (bi .eql .none t58_42 (.int .u8 123))) fun t59_43 =>
 M.bind (pick (strip (strip a1)) t59_43 (.bool false)) fun t60_44 =>
 condM t60_44
 (M.bind (nc P (strip a0)) fun t63_45 =>
 M.bind (fa 1 t63_45) fun t64_46 =>
 M.bind (ld none false t64_46) fun t65_47 =>
 M.bind (C u00 [(strip (strip a0)), (strip t65_47), (.int .i64 8)]) fun t66_48 =>
 M.bind (bd [(.int .i64 0), (.bool false), (.int .i64 0)] []) fun t67_49 =>
 M.bind (st 3 true t6_0 t67_49) fun _ =>
 M.bind (ld (some 3) true t6_0) fun t0_51 => guardM (!isTup t0_51) (M.pure t0_51))
 (M.bind (gd (strip (strip a1)) true (M.pure (strip t13_2))) fun t77_52 =>
 M.bind (gd (strip (strip a1)) true (bi .geq .none t77_52 (.int .u8 124))) fun t78_53 =>
 M.bind (pick (strip (strip a1)) t78_53 (.bool false)) fun t79_54 =>
 M.bind (gd (strip t79_54) true (M.pure (strip t13_2))) fun t81_55 =>
 M.bind (gd (strip t79_54) true (bi .leq .none t81_55 (.int .u8 127))) fun t82_56 =>
 M.bind (pick (strip t79_54) t82_56 (.bool false)) fun t83_57 =>
 condM t83_57
 (M.bind (cv (.int .i64) true (strip t13_2)) fun t85_58 =>
 M.bind (bi .sub .none (.int .i64 128) t85_58) fun t86_59 =>
 u0v a0 t6_0 t86_59)
 (M.bind (gd (strip (strip a2)) true (M.pure (strip t13_2))) fun t90_60 =>
 M.bind (gd (strip (strip a2)) true (bi .eql .none t90_60 (.int .u8 120))) fun t91_61 =>
 M.bind (pick (strip (strip a2)) t91_61 (.bool false)) fun t92_62 =>
 condM t92_62
 (u0v a0 t6_0 (.int .i64 6))
 (M.bind (gd (strip (strip a2)) true (M.pure (strip t13_2))) fun t96_63 =>
 M.bind (gd (strip (strip a2)) true (bi .eql .none t96_63 (.int .u8 119))) fun t97_64 =>
 M.bind (pick (strip (strip a2)) t97_64 (.bool false)) fun t98_65 =>
 condM t98_65
 (u0v a0 t6_0 (.int .i64 7))
 (M.bind (nc P (strip a0)) fun t70_66 =>
 M.bind (fa 1 t70_66) fun t71_67 =>
 M.bind (ld none false t71_67) fun t72_68 =>
 M.bind (C u00 [(strip (strip a0)), (strip t72_68), (.int .i64 4)]) fun t73_69 =>
 u0v a0 t6_0 (.int .i64 0))))))))) := by
 rw [C, u02 _ _ rfl]; kernel_rfl
theorem u60 (a0 : PV) : C u18 [a0] =
 trunc (M.bind (al [(.bool false), (.int .u64 0), (.int .u64 0), (.bool false)]) fun t2_0 =>
 M.bind (nc P (strip a0)) fun t4_1 =>
 M.bind (fa 3 t4_1) fun t5_2 =>
 M.bind (ld none false t5_2) fun t6_3 =>
 M.bind (bi .neq .none t6_3 (.int .i64 0)) fun t7_4 =>
 condM t7_4
 (M.bind (bd [(.bool false), (.int .u64 0), (.int .u64 0), (.bool false)] []) fun t8_5 =>
 M.bind (st 4 true t2_0 t8_5) fun _ =>
 M.bind (ld (some 4) true t2_0) fun t0_7 => guardM (!isTup t0_7) (M.pure t0_7))
 (M.bind (C u0e [(strip (strip a0))]) fun t10_8 =>
 M.bind (st 4 true t2_0 t10_8) fun _ =>
 M.bind (ld (some 4) true t2_0) fun t0_10 => guardM (!isTup t0_10) (M.pure t0_10))) := by
 rw [C, u02 _ _ rfl]; kernel_rfl
theorem u66 (a0 a1 a2 a3 : PV) : CD none u2j [a0, a1, a2, a3] =
 noPan (trunc (M.bind (M.pure .niliface) fun t6_0 =>
 M.bind (bi .neq .iface (strip t6_0) .niliface) fun t8_1 =>
 condM t8_1
 (M.bind (ta u0t (.agg [(.int .i64 0), (.int .i64 0)]) false (strip t6_0)) fun t10_2 =>
 M.bind (al [(.int .i64 0), (.int .i64 0)]) fun t5_3 =>
 M.bind (st 2 true t5_3 t10_2) fun _ =>
 nb (ld (some 4) true a0) fun t11_5 =>
 nb (fa 0 t5_3) fun t12_6 =>
 guardM (!clash (tld t12_6) (tld a0) && true) <| nb (ld none true t12_6) fun t13_7 =>
 nb (fa 1 t5_3) fun t14_8 =>
 guardM (!clash (tld t14_8) (tld t12_6) && (!clash (tld t14_8) (.no) && (!clash (tld t14_8) (tld a0) && true))) <| nb (ld none true t14_8) fun t15_9 =>
 guardM (!clash (tst a1) (tld t14_8) && (!clash (tst a1) (.no) && (!clash (tst a1) (tld t12_6) && (!clash (tst a1) (.no) && true)))) <| M.bind (noPan (st 4 true a1 t11_5)) fun _ =>
 guardM (!clash (tst a2) (tld t14_8) && (!clash (tst a2) (.no) && true)) <| M.bind (noPan (st 1 true a2 t13_7)) fun _ =>
 M.bind (noPan (st 1 true a3 t15_9)) fun _ =>
 M.pure (.tup []))
 (M.pure (.tup [])))) := by
 rw [CD, u31]; kernel_rfl
theorem u6b (r : PV) (a0 a1 a2 a3 : PV) : CD (some r) u2j [a0, a1, a2, a3] =
 noPan (trunc (M.bind (M.pure r) fun t6_0 =>
 M.bind (bi .neq .iface (strip t6_0) .niliface) fun t8_1 =>
 condM t8_1
 (M.bind (ta u0t (.agg [(.int .i64 0), (.int .i64 0)]) false (strip t6_0)) fun t10_2 =>
 M.bind (al [(.int .i64 0), (.int .i64 0)]) fun t5_3 =>
 M.bind (st 2 true t5_3 t10_2) fun _ =>
 nb (ld (some 4) true a0) fun t11_5 =>
 nb (fa 0 t5_3) fun t12_6 =>
 guardM (!clash (tld t12_6) (tld a0) && true) <| nb (ld none true t12_6) fun t13_7 =>
 nb (fa 1 t5_3) fun t14_8 =>
 guardM (!clash (tld t14_8) (tld t12_6) && (!clash (tld t14_8) (.no) && (!clash (tld t14_8) (tld a0) && true))) <| nb (ld none true t14_8) fun t15_9 =>
 guardM (!clash (tst a1) (tld t14_8) && (!clash (tst a1) (.no) && (!clash (tst a1) (tld t12_6) && (!clash (tst a1) (.no) && true)))) <| M.bind (noPan (st 4 true a1 t11_5)) fun _ =>
 guardM (!clash (tst a2) (tld t14_8) && (!clash (tst a2) (.no) && true)) <| M.bind (noPan (st 1 true a2 t13_7)) fun _ =>
 M.bind (noPan (st 1 true a3 t15_9)) fun _ =>
 M.pure (.tup []))
 (M.pure (.tup [])))) := by
 rw [CD, u31]; kernel_rfl
noncomputable def u4a (v0 v2 : PV) : M PV := atP P X u3c [1, 1, 1] (mkEnv 35 0 [(0, v0), (2, v2)])
theorem u53 (v0 v2 : PV) : u4a v0 v2 =
 M.bind (C u2c [(strip (strip v0))]) fun t34_0 =>
 M.bind (st 3 true v2 t34_0) fun _ =>
 M.bind (ld (some 3) true v2) fun t0_2 => guardM (!isTup t0_2) (M.pure t0_2) :=
 (u0q P X _ _ _).trans (by kernel_rfl)
theorem ubk (a0 : PV) : C u3c [a0] =
 trunc (M.bind (al [(.int .i64 0), (.bool false), (.int .i64 0)]) fun t2_0 =>
 M.bind (C u1b [(strip (strip a0))]) fun t5_1 =>
 M.bind (bi .eql .none (strip t5_1) (.int .u8 123)) fun t8_2 =>
 condM t8_2
 (M.bind (nc P (strip a0)) fun t11_3 =>
 M.bind (fa 1 t11_3) fun t12_4 =>
 M.bind (ld none false t12_4) fun t13_5 =>
 M.bind (C u0j [(strip (strip a0)), (strip t13_5), (.int .i64 8)]) fun t14_6 =>
 u4a a0 t2_0)
 (M.bind (bi .geq .none (strip t5_1) (.int .u8 124)) fun t17_7 =>
 M.bind (gd (strip t17_7) true (M.pure (strip t5_1))) fun t19_8 =>
 M.bind (gd (strip t17_7) true (bi .leq .none t19_8 (.int .u8 127))) fun t20_9 =>
 M.bind (pick (strip t17_7) t20_9 (.bool false)) fun t21_10 =>
 condM t21_10
 (M.bind (nc P (strip a0)) fun t23_11 =>
 M.bind (fa 1 t23_11) fun t24_12 =>
 M.bind (ld none false t24_12) fun t25_13 =>
 M.bind (bi .add .none t25_13 (.int .i64 1)) fun t26_14 =>
 M.bind (nc P (strip a0)) fun t27_15 =>
 M.bind (fa 1 t27_15) fun t28_16 =>
 M.bind (st 1 true t28_16 t26_14) fun _ =>
 M.bind (cv (.int .i64) true (strip t5_1)) fun t30_18 =>
 M.bind (bi .sub .none (.int .i64 128) t30_18) fun t31_19 =>
 M.bind (bd [(.int .i64 0), (.bool false), (.int .i64 0)] [(0, 1, t31_19)]) fun t32_20 =>
 M.bind (st 3 true t2_0 t32_20) fun _ =>
 M.bind (ld (some 3) true t2_0) fun t0_22 => guardM (!isTup t0_22) (M.pure t0_22))
 (u4a a0 t2_0))) := by
 rw [C, u02 _ _ rfl]; kernel_rfl
theorem uat (a0 a1 a2 a3 : PV) : CD none u5x [a0, a1, a2, a3] =
 noPan (trunc (M.bind (M.pure .niliface) fun t6_0 =>
 M.bind (bi .neq .iface (strip t6_0) .niliface) fun t8_1 =>
 condM t8_1
 (M.bind (ta u0t (.agg [(.int .i64 0), (.int .i64 0)]) false (strip t6_0)) fun t10_2 =>
 M.bind (al [(.int .i64 0), (.int .i64 0)]) fun t5_3 =>
 M.bind (st 2 true t5_3 t10_2) fun _ =>
 nb (ld none true a0) fun t11_5 =>
 nb (fa 0 t5_3) fun t12_6 =>
 guardM (!clash (tld t12_6) (tld a0) && true) <| nb (ld none true t12_6) fun t13_7 =>
 nb (fa 1 t5_3) fun t14_8 =>
 guardM (!clash (tld t14_8) (tld t12_6) && (!clash (tld t14_8) (.no) && (!clash (tld t14_8) (tld a0) && true))) <| nb (ld none true t14_8) fun t15_9 =>
 guardM (!clash (tst a1) (tld t14_8) && (!clash (tst a1) (.no) && (!clash (tst a1) (tld t12_6) && (!clash (tst a1) (.no) && true)))) <| M.bind (noPan (st 1 true a1 t11_5)) fun _ =>
 guardM (!clash (tst a2) (tld t14_8) && (!clash (tst a2) (.no) && true)) <| M.bind (noPan (st 1 true a2 t13_7)) fun _ =>
 M.bind (noPan (st 1 true a3 t15_9)) fun _ =>
 M.pure (.tup []))
 (M.pure (.tup [])))) := by
 rw [CD, u31]; kernel_rfl
theorem uaq (r : PV) (a0 a1 a2 a3 : PV) : CD (some r) u5x [a0, a1, a2, a3] =
 noPan (trunc (M.bind (M.pure r) fun t6_0 =>
 M.bind (bi .neq .iface (strip t6_0) .niliface) fun t8_1 =>
 condM t8_1
 (M.bind (ta u0t (.agg [(.int .i64 0), (.int .i64 0)]) false (strip t6_0)) fun t10_2 =>
 M.bind (al [(.int .i64 0), (.int .i64 0)]) fun t5_3 =>
 M.bind (st 2 true t5_3 t10_2) fun _ =>
 nb (ld none true a0) fun t11_5 =>
 nb (fa 0 t5_3) fun t12_6 =>
 guardM (!clash (tld t12_6) (tld a0) && true) <| nb (ld none true t12_6) fun t13_7 =>
 nb (fa 1 t5_3) fun t14_8 =>
 guardM (!clash (tld t14_8) (tld t12_6) && (!clash (tld t14_8) (.no) && (!clash (tld t14_8) (tld a0) && true))) <| nb (ld none true t14_8) fun t15_9 =>
 guardM (!clash (tst a1) (tld t14_8) && (!clash (tst a1) (.no) && (!clash (tst a1) (tld t12_6) && (!clash (tst a1) (.no) && true)))) <| M.bind (noPan (st 1 true a1 t11_5)) fun _ =>
 guardM (!clash (tst a2) (tld t14_8) && (!clash (tst a2) (.no) && true)) <| M.bind (noPan (st 1 true a2 t13_7)) fun _ =>
 M.bind (noPan (st 1 true a3 t15_9)) fun _ =>
 M.pure (.tup []))
 (M.pure (.tup [])))) := by
 rw [CD, u31]; kernel_rfl
noncomputable def u3n (v2 v4 : PV) : M PV := atP P X u21 [1, 1, 1, 1] (mkEnv 18 0 [(2, v2), (4, v4)])
theorem u71 (v2 v4 : PV) : u3n v2 v4 =
 M.bind (cv (.int .i64) true (strip v4)) fun t17_0 =>
 resT t17_0 (M.pure t17_0) :=
 (u0q P X _ _ _).trans (by kernel_rfl)
theorem u9l (a0 : PV) : C u21 [a0] =
 trunc (M.bind (nc P (strip a0)) fun t6_0 =>
 M.bind (fa 1 t6_0) fun t7_1 =>
 M.bind (ld none true t7_1) fun t8_2 =>
 M.bind (C u2e [(strip (strip a0))]) fun t10_3 =>
 M.bind (bi .gtr .none (strip t10_3) (.int .u32 2147483647)) fun t12_4 =>
 condM t12_4
 (M.bind (C u0j [(strip (strip a0)), (strip (strip t8_2)), (.int .i64 2)]) fun t15_5 =>
 u3n (.int .i64 0) t10_3)
 (u3n (.int .i64 0) t10_3)) := by
 rw [C, u02 _ _ rfl]; kernel_rfl
theorem u2q (a0 : PV) : C u0w [a0] =
 trunc (nb (nc P (strip a0)) fun t5_0 =>
 nb (fa 3 t5_0) fun t6_1 =>
 nb (ld none false t6_1) fun t7_2 =>
 nb (bi .neq .none t7_2 (.int .i64 0)) fun t8_3 =>
 nb (gd (strip t8_3) false (M.pure (strip a0))) fun t10_4 =>
 nb (gd (strip t8_3) false (nc P t10_4)) fun t11_5 =>
 nb (gd (strip t8_3) false (fa 1 t11_5)) fun t12_6 =>
 nb (gd (strip t8_3) false (ld none false t12_6)) fun t13_7 =>
 nb (gd (strip t8_3) false (M.pure (strip a0))) fun t14_8 =>
 nb (gd (strip t8_3) false (nc P t14_8)) fun t15_9 =>
 nb (gd (strip t8_3) false (fa 0 t15_9)) fun t16_10 =>
 nb (gd (strip t8_3) false (ld none false t16_10)) fun t17_11 =>
 nb (gd (strip t8_3) false (lnL t17_11)) fun t18_12 =>
 nb (gd (strip t8_3) false (bi .geq .none t13_7 t18_12)) fun t19_13 =>
 nb (pick (strip t8_3) (.bool true) t19_13) fun t20_14 =>
 condM t20_14
 (M.pure (.tup [(.int .u8 0), (.bool false)]))
 (nb (nc P (strip a0)) fun t22_15 =>
 nb (fa 0 t22_15) fun t23_16 =>
 nb (ld none false t23_16) fun t24_17 =>
 nb (nc P (strip a0)) fun t26_18 =>
 nb (fa 1 t26_18) fun t27_19 =>
 nb (ld none false t27_19) fun t28_20 =>
 nb (iaS 1 t24_17 t28_20) fun t29_21 =>
 nb (ld none true t29_21) fun t30_22 =>
 resT t30_22 (M.pure (.tup [t30_22, (.bool true)])))) := by
 rw [C, u02 _ _ rfl]; kernel_rfl
theorem u7q (a0 a1 a2 a3 : PV) : CD none u3l [a0, a1, a2, a3] =
 noPan (trunc (M.bind (M.pure .niliface) fun t6_0 =>
 M.bind (bi .neq .iface (strip t6_0) .niliface) fun t8_1 =>
 condM t8_1
 (M.bind (ta u0t (.agg [(.int .i64 0), (.int .i64 0)]) false (strip t6_0)) fun t10_2 =>
 M.bind (al [(.int .i64 0), (.int .i64 0)]) fun t5_3 =>
 M.bind (st 2 true t5_3 t10_2) fun _ =>
 nb (ld (some 19) true a0) fun t11_5 =>
 nb (fa 0 t5_3) fun t12_6 =>
 guardM (!clash (tld t12_6) (tld a0) && true) <| nb (ld none true t12_6) fun t13_7 =>
 nb (fa 1 t5_3) fun t14_8 =>
 guardM (!clash (tld t14_8) (tld t12_6) && (!clash (tld t14_8) (.no) && (!clash (tld t14_8) (tld a0) && true))) <| nb (ld none true t14_8) fun t15_9 =>
 guardM (!clash (tst a1) (tld t14_8) && (!clash (tst a1) (.no) && (!clash (tst a1) (tld t12_6) && (!clash (tst a1) (.no) && true)))) <| M.bind (noPan (st 19 true a1 t11_5)) fun _ =>
 guardM (!clash (tst a2) (tld t14_8) && (!clash (tst a2) (.no) && true)) <| M.bind (noPan (st 1 true a2 t13_7)) fun _ =>
 M.bind (noPan (st 1 true a3 t15_9)) fun _ =>
 M.pure (.tup []))
 (M.pure (.tup [])))) := by
 rw [CD, u31]; kernel_rfl
theorem u7o (r : PV) (a0 a1 a2 a3 : PV) : CD (some r) u3l [a0, a1, a2, a3] =
 noPan (trunc (M.bind (M.pure r) fun t6_0 =>
 M.bind (bi .neq .iface (strip t6_0) .niliface) fun t8_1 =>
 condM t8_1
 (M.bind (ta u0t (.agg [(.int .i64 0), (.int .i64 0)]) false (strip t6_0)) fun t10_2 =>
 M.bind (al [(.int .i64 0), (.int .i64 0)]) fun t5_3 =>
 M.bind (st 2 true t5_3 t10_2) fun _ =>
 nb (ld (some 19) true a0) fun t11_5 =>
 nb (fa 0 t5_3) fun t12_6 =>
 guardM (!clash (tld t12_6) (tld a0) && true) <| nb (ld none true t12_6) fun t13_7 =>
 nb (fa 1 t5_3) fun t14_8 =>
 guardM (!clash (tld t14_8) (tld t12_6) && (!clash (tld t14_8) (.no) && (!clash (tld t14_8) (tld a0) && true))) <| nb (ld none true t14_8) fun t15_9 =>
 guardM (!clash (tst a1) (tld t14_8) && (!clash (tst a1) (.no) && (!clash (tst a1) (tld t12_6) && (!clash (tst a1) (.no) && true)))) <| M.bind (noPan (st 19 true a1 t11_5)) fun _ =>
 guardM (!clash (tst a2) (tld t14_8) && (!clash (tst a2) (.no) && true)) <| M.bind (noPan (st 1 true a2 t13_7)) fun _ =>
 M.bind (noPan (st 1 true a3 t15_9)) fun _ =>
 M.pure (.tup []))
 (M.pure (.tup [])))) := by
 rw [CD, u31]; kernel_rfl
theorem uao (a0 : PV) : C u29 [a0] =
 trunc (M.bind (noPan (M.pure (strip a0))) fun t7_16 =>
 M.bind (noPan (nc P t7_16)) fun t8_17 =>
 M.bind (noPan (fa 0 t8_17)) fun t9_18 =>
 M.bind (noPan (M.pure (strip a0))) fun t11_19 =>
 M.bind (noPan (nc P t11_19)) fun t12_20 =>
 M.bind (noPan (fa 1 t12_20)) fun t13_21 =>
 M.bind (noPan (ld none false t9_18)) fun t10_22 =>
 M.bind (noPan (ld none false t13_21)) fun t14_23 =>
 M.bind (noPan (C ua3 [(strip t10_22), (strip t14_23)])) fun t15_24 =>
 M.bind (noPan (M.pure t15_24)) fun t6_25 =>
 M.bind (noPan (ex 0 t6_25)) fun t16_26 =>
 M.bind (noPan (ex 1 (tupDrop 0 t6_25))) fun t17_27 =>
 M.bind (noPan (ex 2 (tupDrop 1 (tupDrop 0 t6_25)))) fun t18_28 =>
 M.bind (noPan (M.pure t16_26)) fun t3_29 =>
 M.bind (noPan (M.pure t17_27)) fun t4_30 =>
 M.bind (noPan (M.pure t18_28)) fun t5_31 =>
 M.bind (C u3a [(strip (strip a0)), (strip (strip t3_29)), (strip (strip t4_30)), (strip (strip t5_31))]) fun t23_32 =>
 resT t23_32 (M.pure t23_32)) := by
 rw [C, u02 _ _ rfl]; kernel_rfl
theorem uaw (a0 a1 : PV) : C u5c [a0, a1] =
 trunc (M.bind (bi .lss .none (strip a1) (.int .i64 0)) fun t8_0 =>
 M.bind (gd (strip t8_0) false (M.pure (strip a1))) fun t10_1 =>
 M.bind (gd (strip t8_0) false (M.pure (strip a0))) fun t11_2 =>
 M.bind (gd (strip t8_0) false (lnL t11_2)) fun t12_3 =>
 M.bind (gd (strip t8_0) false (bi .gtr .none t10_1 t12_3)) fun t13_4 =>
 M.bind (pick (strip t8_0) (.bool true) t13_4) fun t14_5 =>
 condM t14_5
 (M.pure (.tup [(.str ⟨#[]⟩), (.int .i64 0), (.int .i64 1)]))
 (M.bind (lnL (strip a0)) fun t18_6 =>
 M.bind (C u51 [(strip (strip a0)), (strip (strip a1)), (strip t18_6)]) fun t19_7 =>
 M.bind (ex 0 t19_7) fun t20_8 =>
 M.bind (ex 1 (tupDrop 0 t19_7)) fun t21_9 =>
 M.bind (ex 2 (tupDrop 1 (tupDrop 0 t19_7))) fun t22_10 =>
 resT t20_8 (resT t21_9 (resT t22_10 (M.pure (.tup [t20_8, t21_9, t22_10])))))) := by
 rw [C, u02 _ _ rfl]; kernel_rfl
theorem u7c (a0 a1 a2 a3 : PV) : CD none u3m [a0, a1, a2, a3] =
 noPan (trunc (M.bind (M.pure .niliface) fun t6_0 =>
 M.bind (bi .neq .iface (strip t6_0) .niliface) fun t8_1 =>
 condM t8_1
 (M.bind (ta u0t (.agg [(.int .i64 0), (.int .i64 0)]) false (strip t6_0)) fun t10_2 =>
 M.bind (al [(.int .i64 0), (.int .i64 0)]) fun t5_3 =>
 M.bind (st 2 true t5_3 t10_2) fun _ =>
 nb (ld (some 3) true a0) fun t11_5 =>
 nb (fa 0 t5_3) fun t12_6 =>
 guardM (!clash (tld t12_6) (tld a0) && true) <| nb (ld none true t12_6) fun t13_7 =>
 nb (fa 1 t5_3) fun t14_8 =>
 guardM (!clash (tld t14_8) (tld t12_6) && (!clash (tld t14_8) (.no) && (!clash (tld t14_8) (tld a0) && true))) <| nb (ld none true t14_8) fun t15_9 =>
 guardM (!clash (tst a1) (tld t14_8) && (!clash (tst a1) (.no) && (!clash (tst a1) (tld t12_6) && (!clash (tst a1) (.no) && true)))) <| M.bind (noPan (st 3 true a1 t11_5)) fun _ =>
 guardM (!clash (tst a2) (tld t14_8) && (!clash (tst a2) (.no) && true)) <| M.bind (noPan (st 1 true a2 t13_7)) fun _ =>
 M.bind (noPan (st 1 true a3 t15_9)) fun _ =>
 M.pure (.tup []))
 (M.pure (.tup [])))) := by
 rw [CD, u31]; kernel_rfl
theorem u78 (r : PV) (a0 a1 a2 a3 : PV) : CD (some r) u3m [a0, a1, a2, a3] =
 noPan (trunc (M.bind (M.pure r) fun t6_0 =>
 M.bind (bi .neq .iface (strip t6_0) .niliface) fun t8_1 =>
 condM t8_1
 (M.bind (ta u0t (.agg [(.int .i64 0), (.int .i64 0)]) false (strip t6_0)) fun t10_2 =>
 M.bind (al [(.int .i64 0), (.int .i64 0)]) fun t5_3 =>
 M.bind (st 2 true t5_3 t10_2) fun _ =>
 nb (ld (some 3) true a0) fun t11_5 =>
 nb (fa 0 t5_3) fun t12_6 =>
 guardM (!clash (tld t12_6) (tld a0) && true) <| nb (ld none true t12_6) fun t13_7 =>
 nb (fa 1 t5_3) fun t14_8 =>
 guardM (!clash (tld t14_8) (tld t12_6) && (!clash (tld t14_8) (.no) && (!clash (tld t14_8) (tld a0) && true))) <| nb (ld none true t14_8) fun t15_9 =>
 guardM (!clash (tst a1) (tld t14_8) && (!clash (tst a1) (.no) && (!clash (tst a1) (tld t12_6) && (!clash (tst a1) (.no) && true)))) <| M.bind (noPan (st 3 true a1 t11_5)) fun _ =>
 guardM (!clash (tst a2) (tld t14_8) && (!clash (tst a2) (.no) && true)) <| M.bind (noPan (st 1 true a2 t13_7)) fun _ =>
 M.bind (noPan (st 1 true a3 t15_9)) fun _ =>
 M.pure (.tup []))
 (M.pure (.tup [])))) := by
 rw [CD, u31]; kernel_rfl
noncomputable def u0d (v0 v1 v2 v3 v4 v10 v11 v12 v13 v14 v15 : PV) : M PV := atP P X u09 [1, 1, 1, 1, 0, 1, 0] (mkEnv 91 0 [(0, v0), (1, v1), (2, v2), (3, v3), (4, v4), (10, v10), (11, v11), (12, v12), (13, v13), (14, v14), (15, v15)])
noncomputable def u07 (v0 v1 v2 v3 v4 v10 v11 v12 v13 v14 v15 : PV) : M PV := atP P X u09 [1, 1, 1, 1, 0, 1, 0, 0, 1, 0, 0, 1, 1, 1, 1, 1, 0, 1] (mkEnv 91 0 [(0, v0), (1, v1), (2, v2), (3, v3), (4, v4), (10, v10), (11, v11), (12, v12), (13, v13), (14, v14), (15, v15)])
theorem u5z (v0 v1 v2 v3 v4 v10 v11 v12 v13 v14 v15 : PV) : u0d v0 v1 v2 v3 v4 v10 v11 v12 v13 v14 v15 =
 M.bind (bi .lss .none (strip v15) (strip v13)) fun t27_0 =>
 condM t27_0
 (M.bind (bi .add .none (strip v1) (strip v15)) fun t32_1 =>
 M.bind (bi .geq .none t32_1 (strip v2)) fun t34_2 =>
 condM t34_2
 (resT v2 (M.pure (.tup [(.int .u64 0), v2, (.int .i64 3)])))
 (M.bind (bi .add .none (strip v1) (strip v15)) fun t39_3 =>
 M.bind (iaS 1 (strip v0) t39_3) fun t40_4 =>
 M.bind (ld none true t40_4) fun t41_5 =>
 M.bind (bi .sub .none (strip v13) (.int .i64 1)) fun t44_6 =>
 M.bind (bi .eql .none (strip v15) t44_6) fun t45_7 =>
 M.bind (gd (strip t45_7) true (M.pure (strip t41_5))) fun t47_8 =>
 M.bind (gd (strip t45_7) true (M.pure (strip v3))) fun t48_9 =>
 M.bind (gd (strip t45_7) true (M.pure (strip v15))) fun t49_10 =>
 M.bind (gd (strip t45_7) true (M.pure (strip v4))) fun t50_11 =>
 M.bind (gd (strip t45_7) true (C u5e [(strip t47_8), (strip t48_9), (strip t49_10), (strip t50_11)])) fun t51_12 =>
 M.bind (gd (strip t45_7) true (un .not t51_12)) fun t52_13 =>
 M.bind (pick (strip t45_7) t52_13 (.bool false)) fun t53_14 =>
 condM t53_14
 (M.bind (bi .add .none (strip v1) (strip v15)) fun t56_15 =>
 resT t56_15 (M.pure (.tup [(.int .u64 0), t56_15, (.int .i64 4)])))
 (M.bind (bi .rem .none (strip t41_5) (.int .u8 128)) fun t59_16 =>
 M.bind (cv (.int .u64) true t59_16) fun t60_17 =>
 M.bind (bi .mul .none (.int .i64 7) (strip v15)) fun t62_18 =>
 M.bind (cv (.int .u64) true t62_18) fun t63_19 =>
 M.bind (bi .shl .none t60_17 t63_19) fun t64_20 =>
 M.bind (bi .add .none (strip v14) t64_20) fun t65_21 =>
 M.bind (bi .lss .none (strip t41_5) (.int .u8 128)) fun t67_22 =>
 condM t67_22
 (M.bind (gd (strip (strip v4)) true (M.pure (strip t41_5))) fun t70_23 =>
 M.bind (gd (strip (strip v4)) true (bi .geq .none t70_23 (.int .u8 64))) fun t71_24 =>
 M.bind (pick (strip (strip v4)) t71_24 (.bool false)) fun t72_25 =>
 M.bind (gd (strip t72_25) true (M.pure (strip v15))) fun t74_26 =>
 M.bind (gd (strip t72_25) true (bi .mul .none (.int .i64 7) t74_26)) fun t75_27 =>
 M.bind (gd (strip t72_25) true (bi .add .none t75_27 (.int .i64 7))) fun t76_28 =>
 M.bind (gd (strip t72_25) true (bi .lss .none t76_28 (.int .i64 64))) fun t77_29 =>
 M.bind (pick (strip t72_25) t77_29 (.bool false)) fun t78_30 =>
 condM t78_30
 (M.bind (bi .mul .none (.int .i64 7) (strip v15)) fun t81_31 =>
 M.bind (bi .add .none t81_31 (.int .i64 7)) fun t82_32 =>
 M.bind (cv (.int .u64) true t82_32) fun t83_33 =>
 M.bind (bi .shl .none (.int .u64 1) t83_33) fun t84_34 =>
 M.bind (bi .sub .none (strip t65_21) t84_34) fun t85_35 =>
 u07 v0 v1 v2 v3 v4 v10 v11 v12 v13 t85_35 v15)
 (u07 v0 v1 v2 v3 v4 v10 v11 v12 v13 t65_21 v15))
 (M.bind (bi .add .none (strip v15) (.int .i64 1)) fun t29_36 =>
 u0d v0 v1 v2 v3 v4 v10 v11 v12 v13 t65_21 t29_36))))
 (M.pure (.tup [(.int .u64 0), (.int .i64 0), (.int .i64 4)])) :=
 (u0q P X _ _ _).trans (by kernel_rfl)
theorem u45 (v0 v1 v2 v3 v4 v10 v11 v12 v13 v14 v15 : PV) : u07 v0 v1 v2 v3 v4 v10 v11 v12 v13 v14 v15 =
 M.bind (bi .add .none (strip v1) (strip v15)) fun t89_0 =>
 M.bind (bi .add .none t89_0 (.int .i64 1)) fun t90_1 =>
 resT v14 (resT t90_1 (M.pure (.tup [v14, t90_1, (.int .i64 0)]))) :=
 (u0q P X _ _ _).trans (by kernel_rfl)
theorem u62 (a0 a1 a2 a3 a4 : PV) : C u09 [a0, a1, a2, a3, a4] =
 trunc (M.bind (C u4y [(strip (strip a0)), (strip (strip a1)), (strip (strip a2))]) fun t20_0 =>
 M.bind (un .not t20_0) fun t21_1 =>
 condM t21_1
 (M.pure (.tup [(.int .u64 0), (.int .i64 0), (.int .i64 1)]))
 (M.bind (bi .add .none (strip a3) (.int .i64 6)) fun t23_2 =>
 M.bind (bi .quo .none t23_2 (.int .i64 7)) fun t24_3 =>
 u0d a0 a1 a2 a3 a4 (.int .u64 0) (.int .i64 0) (.int .i64 0) t24_3 (.int .u64 0) (.int .i64 0))) := by
 rw [C, u02 _ _ rfl]; kernel_rfl
theorem ua4 (a0 a1 : PV) : C u6x [a0, a1] =
 trunc (M.bind (ld (some 3) false a1) fun t4_0 =>
 M.bind (C u7m [(strip (strip a0)), (strip t4_0)]) fun t5_1 =>
 M.pure (.tup [])) := by
 rw [C, u02 _ _ rfl]; kernel_rfl
noncomputable def u5d (v0 v3 : PV) : M PV := atP P X u7m [1, 1, 1] (mkEnv 49 0 [(0, v0), (3, v3)])
theorem udk (a0 a1 : PV) : C u7m [a0, a1] =
 trunc (M.bind (bx 3 a1) fun t3_0 =>
 M.bind (fa 0 t3_0) fun t4_1 =>
 M.bind (ld none false t4_1) fun t5_2 =>
 M.bind (bi .neq .none t5_2 (.int .i64 5)) fun t6_3 =>
 condM t6_3
 (M.bind (fa 0 t3_0) fun t8_4 =>
 M.bind (ld none false t8_4) fun t9_5 =>
 M.bind (bi .geq .none t9_5 (.int .i64 1)) fun t10_6 =>
 M.bind (gd (strip t10_6) true (fa 0 t3_0)) fun t12_7 =>
 M.bind (gd (strip t10_6) true (ld none false t12_7)) fun t13_8 =>
 M.bind (gd (strip t10_6) true (bi .leq .none t13_8 (.int .i64 4))) fun t14_9 =>
 M.bind (pick (strip t10_6) t14_9 (.bool false)) fun t15_10 =>
 M.bind (gd (strip t15_10) true (fa 1 t3_0)) fun t17_11 =>
 M.bind (gd (strip t15_10) true (ld none false t17_11)) fun t18_12 =>
 M.bind (gd (strip t15_10) true (un .not t18_12)) fun t19_13 =>
 M.bind (pick (strip t15_10) t19_13 (.bool false)) fun t20_14 =>
 M.bind (gd (strip t20_14) true (fa 2 t3_0)) fun t22_15 =>
 M.bind (gd (strip t20_14) true (ld none false t22_15)) fun t23_16 =>
 M.bind (gd (strip t20_14) true (bi .eql .none t23_16 (.int .i64 0))) fun t24_17 =>
 M.bind (pick (strip t20_14) t24_17 (.bool false)) fun t25_18 =>
 M.bind (C u94 [(strip (strip a0)), (strip t25_18)]) fun t26_19 =>
 M.bind (fa 0 t3_0) fun t28_20 =>
 M.bind (ld none false t28_20) fun t29_21 =>
 M.bind (cv (.int .u8) true t29_21) fun t30_22 =>
 M.bind (bi .sub .none (.int .u8 128) t30_22) fun t31_23 =>
 M.bind (C u59 [(strip (strip a0)), (strip t31_23)]) fun t32_24 =>
 M.pure (.tup []))
 (M.bind (fa 1 t3_0) fun t34_25 =>
 M.bind (ld none false t34_25) fun t35_26 =>
 M.bind (un .not t35_26) fun t36_27 =>
 condM t36_27
 (M.bind (C u59 [(strip (strip a0)), (.int .u8 100)]) fun t38_28 =>
 u5d a0 t3_0)
 (M.bind (fa 2 t3_0) fun t40_29 =>
 M.bind (ld none false t40_29) fun t41_30 =>
 M.bind (bi .geq .none t41_30 (.int .i64 0)) fun t42_31 =>
 condM t42_31
 (M.bind (C u59 [(strip (strip a0)), (.int .u8 99)]) fun t44_32 =>
 u5d a0 t3_0)
 (u5d a0 t3_0)))) := by
 rw [C, u02 _ _ rfl]; kernel_rfl
theorem ud0 (a0 a1 : PV) : CD none u9g [a0, a1] =
 noPan (trunc (M.bind (M.pure .niliface) fun t3_0 =>
 M.bind (bi .neq .iface (strip t3_0) .niliface) fun t5_1 =>
 condM t5_1
 (nb (M.pure (strip t3_0)) fun t6_2 =>
 nb (ta u0t (.agg [(.int .i64 0), (.int .i64 0)]) false t6_2) fun t7_3 =>
 nb (fd 1 none t7_3) fun t8_4 =>
 guardM (!clash (tst a0) (.no) && (!clash (tst a0) (.no) && (!clash (tst a0) (.no) && true))) <| M.bind (noPan (st 1 false a0 (.slice false true 0 []))) fun _ =>
 M.bind (noPan (st 1 true a1 t8_4)) fun _ =>
 M.pure (.tup []))
 (M.pure (.tup [])))) := by
 rw [CD, u31]; kernel_rfl
end Go.Proofs.YthnmienjiangkaaGreatDoor.Pi.Q
namespace Go.Proofs.YthnmienjiangkaaGreatDoor.Pi.Q
open Go Go.Proofs.YthnmienjiangkaaGreatDoor.Pi
noncomputable def u49 (v0 v2 : PV) : M PV := atP P X u1b [1, 1] (mkEnv 30 0 [(0, v0), (2, v2)])
theorem u89 (v0 v2 : PV) : u49 v0 v2 =
 nb (nc P (strip v0)) fun t21_0 =>
 nb (fa 0 t21_0) fun t22_1 =>
 nb (ld none false t22_1) fun t23_2 =>
 nb (nc P (strip v0)) fun t25_3 =>
 nb (fa 1 t25_3) fun t26_4 =>
 nb (ld none false t26_4) fun t27_5 =>
 nb (iaS 1 t23_2 t27_5) fun t28_6 =>
 nb (ld none true t28_6) fun t29_7 =>
 resT t29_7 (M.pure t29_7) :=
 (u0q P X _ _ _).trans (by kernel_rfl)
theorem uas (a0 : PV) : C u1b [a0] =
 trunc (nb (nc P (strip a0)) fun t4_0 =>
 nb (fa 1 t4_0) fun t5_1 =>
 nb (ld none false t5_1) fun t6_2 =>
 nb (nc P (strip a0)) fun t8_3 =>
 nb (fa 0 t8_3) fun t9_4 =>
 nb (ld none false t9_4) fun t10_5 =>
 nb (lnL t10_5) fun t11_6 =>
 nb (bi .geq .none t6_2 t11_6) fun t12_7 =>
 condM t12_7
 (M.bind (nc P (strip a0)) fun t15_8 =>
 M.bind (fa 0 t15_8) fun t16_9 =>
 M.bind (ld none false t16_9) fun t17_10 =>
 M.bind (lnL t17_10) fun t18_11 =>
 M.bind (C u0j [(strip (strip a0)), (strip t18_11), (.int .i64 3)]) fun t19_12 =>
 u49 a0 (.int .u8 0))
 (u49 a0 (.int .u8 0))) := by
 rw [C, u02 _ _ rfl]; kernel_rfl
theorem ucj (a0 a1 : PV) : C u94 [a0, a1] =
 trunc (M.bind (un .not (strip a1)) fun t5_0 =>
 condM t5_0
 (M.bind (bd [(.int .i64 0), (.int .i64 0)] [(0, 1, (.int .i64 0)), (1, 1, (.int .i64 4))]) fun t6_1 =>
 M.bind (mi u0t t6_1) fun t7_2 =>
 M.bind (pn t7_2) fun _ =>
 M.pure (.tup []))
 (M.pure (.tup []))) := by
 rw [C, u02 _ _ rfl]; kernel_rfl
theorem upe (a0 a1 a2 : PV) : C ue4 [a0, a1, a2] =
 trunc (M.bind (C u35 [(strip (strip a0)), (strip (strip a1)), (strip (strip a2)), (.fn ucc [] [])]) fun t12_0 =>
 M.bind (ex 0 t12_0) fun t13_1 =>
 M.bind (ex 1 (tupDrop 0 t12_0)) fun t14_2 =>
 M.bind (ex 2 (tupDrop 1 (tupDrop 0 t12_0))) fun t15_3 =>
 resT t13_1 (resT t14_2 (resT t15_3 (M.pure (.tup [t13_1, t14_2, t15_3]))))) := by
 rw [C, u02 _ _ rfl]; kernel_rfl
noncomputable def u4p (v0 v1 v2 v8 : PV) : M PV := atP P X u39 [1, 1] (mkEnv 20 0 [(0, v0), (1, v1), (2, v2), (8, v8)])
theorem u8g (v0 v1 v2 v8 : PV) : u4p v0 v1 v2 v8 =
 M.bind (nc P (strip v0)) fun t17_0 =>
 M.bind (fa 1 t17_0) fun t18_1 =>
 M.bind (st 1 true t18_1 v2) fun _ =>
 resT v1 (M.pure v1) :=
 (u0q P X _ _ _).trans (by kernel_rfl)
theorem u7h (a0 a1 a2 a3 : PV) : C u39 [a0, a1, a2, a3] =
 trunc (M.bind (bi .neq .none (strip a3) (.int .i64 0)) fun t10_0 =>
 condM t10_0
 (M.bind (C u0j [(strip (strip a0)), (strip (strip a2)), (strip (strip a3))]) fun t14_1 =>
 u4p a0 a1 a2 (.int .u64 0))
 (u4p a0 a1 a2 (.int .u64 0))) := by
 rw [C, u02 _ _ rfl]; kernel_rfl
theorem ups (a0 a1 a2 : PV) : C ucd [a0, a1, a2] =
 trunc (M.bind (C u34 [(strip (strip a0)), (strip (strip a1)), (strip (strip a2)), (.fn uc3 [] [])]) fun t12_0 =>
 M.bind (ex 0 t12_0) fun t13_1 =>
 M.bind (ex 1 (tupDrop 0 t12_0)) fun t14_2 =>
 M.bind (ex 2 (tupDrop 1 (tupDrop 0 t12_0))) fun t15_3 =>
 resT t13_1 (resT t14_2 (resT t15_3 (M.pure (.tup [t13_1, t14_2, t15_3]))))) := by
 rw [C, u02 _ _ rfl]; kernel_rfl
noncomputable def u4k (v0 v1 v2 v8 : PV) : M PV := atP P X u3e [1, 1] (mkEnv 20 0 [(0, v0), (1, v1), (2, v2), (8, v8)])
theorem u8m (v0 v1 v2 v8 : PV) : u4k v0 v1 v2 v8 =
 M.bind (nc P (strip v0)) fun t17_0 =>
 M.bind (fa 1 t17_0) fun t18_1 =>
 M.bind (st 1 true t18_1 v2) fun _ =>
 resT v1 (M.pure v1) :=
 (u0q P X _ _ _).trans (by kernel_rfl)
theorem u79 (a0 a1 a2 a3 : PV) : C u3e [a0, a1, a2, a3] =
 trunc (M.bind (bi .neq .none (strip a3) (.int .i64 0)) fun t10_0 =>
 condM t10_0
 (M.bind (C u0j [(strip (strip a0)), (strip (strip a2)), (strip (strip a3))]) fun t14_1 =>
 u4k a0 a1 a2 (.int .u32 0))
 (u4k a0 a1 a2 (.int .u32 0))) := by
 rw [C, u02 _ _ rfl]; kernel_rfl
theorem ug4 (a0 : PV) : C u73 [a0] =
 trunc (M.bind (bi .lss .none (strip a0) (.int .u8 105)) fun t4_0 =>
 M.bind (gd (strip t4_0) false (M.pure (strip a0))) fun t6_1 =>
 M.bind (gd (strip t4_0) false (bi .gtr .none t6_1 (.int .u8 116))) fun t7_2 =>
 M.bind (pick (strip t4_0) (.bool true) t7_2) fun t8_3 =>
 condM t8_3
 (M.pure (.int .i64 0))
 (M.bind (C u6n []) fun t9_4 =>
 M.bind (bi .sub .none (strip a0) (.int .u8 105)) fun t11_5 =>
 M.bind (ixA 12 1 none t9_4 t11_5) fun t12_6 =>
 resT t12_6 (M.pure t12_6))) := by
 rw [C, u02 _ _ rfl]; kernel_rfl
theorem uap (a0 : PV) : C u5f [a0] =
 trunc (M.bind (C u1b [(strip (strip a0))]) fun t5_0 =>
 M.bind (C u73 [(strip t5_0)]) fun t6_1 =>
 M.bind (bi .neq .none (strip t6_1) (.int .i64 0)) fun t8_2 =>
 condM t8_2
 (M.bind (nc P (strip a0)) fun t10_3 =>
 M.bind (fa 1 t10_3) fun t11_4 =>
 M.bind (ld none false t11_4) fun t12_5 =>
 M.bind (bi .add .none t12_5 (.int .i64 1)) fun t13_6 =>
 M.bind (nc P (strip a0)) fun t14_7 =>
 M.bind (fa 1 t14_7) fun t15_8 =>
 M.bind (st 1 true t15_8 t13_6) fun _ =>
 resT t6_1 (M.pure t6_1))
 (M.bind (C u4b [(strip (strip a0))]) fun t18_10 =>
 resT t18_10 (M.pure t18_10))) := by
 rw [C, u02 _ _ rfl]; kernel_rfl
noncomputable def u0y (v0 v2 v5 v6 : PV) : M PV := atP P X u19 [1, 1, 1, 1, 1, 1] (mkEnv 64 0 [(0, v0), (2, v2), (5, v5), (6, v6)])
noncomputable def u1r (v0 v2 v6 : PV) : M PV := atP P X u19 [1, 1, 1, 1, 1, 1, 1] (mkEnv 64 0 [(0, v0), (2, v2), (6, v6)])
theorem u16 (v0 v2 v5 v6 : PV) : u0y v0 v2 v5 v6 =
 M.bind (nc P (strip v0)) fun t47_0 =>
 M.bind (fa 3 t47_0) fun t48_1 =>
 M.bind (ld none false t48_1) fun t49_2 =>
 M.bind (bi .eql .none t49_2 (.int .i64 0)) fun t50_3 =>
 M.bind (gd (strip t50_3) true (M.pure (strip v6))) fun t52_4 =>
 M.bind (gd (strip t50_3) true (bi .geq .none t52_4 (.int .i64 2147483648))) fun t53_5 =>
 M.bind (pick (strip t50_3) t53_5 (.bool false)) fun t54_6 =>
 condM t54_6
 (M.bind (C u00 [(strip (strip v0)), (strip (strip v5)), (.int .i64 2)]) fun t57_7 =>
 u1r v0 v2 v6)
 (u1r v0 v2 v6) :=
 (u0q P X _ _ _).trans (by kernel_rfl)
theorem u13 (v0 v2 v6 : PV) : u1r v0 v2 v6 =
 M.bind (nc P (strip v0)) fun t59_0 =>
 M.bind (fa 3 t59_0) fun t60_1 =>
 M.bind (ld none false t60_1) fun t61_2 =>
 M.bind (bi .neq .none t61_2 (.int .i64 0)) fun t62_3 =>
 condM t62_3
 (M.pure (.int .i64 0))
 (resT v6 (M.pure v6)) :=
 (u0q P X _ _ _).trans (by kernel_rfl)
theorem u72 (a0 : PV) : C u19 [a0] =
 trunc (M.bind (C u0w [(strip (strip a0))]) fun t9_0 =>
 M.bind (ex 0 t9_0) fun t10_1 =>
 M.bind (ex 1 (tupDrop 0 t9_0)) fun t11_2 =>
 M.bind (gd (strip (strip t11_2)) true (M.pure (strip t10_1))) fun t14_3 =>
 M.bind (gd (strip (strip t11_2)) true (C u1m [(strip t14_3)])) fun t15_4 =>
 M.bind (gd (strip (strip t11_2)) true (bi .neq .none t15_4 (.int .i64 0))) fun t16_5 =>
 M.bind (pick (strip (strip t11_2)) t16_5 (.bool false)) fun t17_6 =>
 condM t17_6
 (M.bind (nc P (strip a0)) fun t19_7 =>
 M.bind (fa 1 t19_7) fun t20_8 =>
 M.bind (ld none false t20_8) fun t21_9 =>
 M.bind (bi .add .none t21_9 (.int .i64 1)) fun t22_10 =>
 M.bind (nc P (strip a0)) fun t23_11 =>
 M.bind (fa 1 t23_11) fun t24_12 =>
 M.bind (st 1 true t24_12 t22_10) fun _ =>
 M.bind (C u1m [(strip (strip t10_1))]) fun t26_14 =>
 resT t26_14 (M.pure t26_14))
 (M.bind (nc P (strip a0)) fun t28_15 =>
 M.bind (fa 1 t28_15) fun t29_16 =>
 M.bind (ld none true t29_16) fun t30_17 =>
 M.bind (C u03 [(strip (strip a0)), (.int .i64 33), (.bool true)]) fun t32_18 =>
 M.bind (cv (.int .i64) true t32_18) fun t33_19 =>
 M.bind (nc P (strip a0)) fun t35_20 =>
 M.bind (fa 3 t35_20) fun t36_21 =>
 M.bind (ld none false t36_21) fun t37_22 =>
 M.bind (bi .eql .none t37_22 (.int .i64 0)) fun t38_23 =>
 M.bind (gd (strip t38_23) true (M.pure (strip t33_19))) fun t40_24 =>
 M.bind (gd (strip t38_23) true (bi .lss .none t40_24 (.int .i64 0))) fun t41_25 =>
 M.bind (pick (strip t38_23) t41_25 (.bool false)) fun t42_26 =>
 condM t42_26
 (M.bind (C u00 [(strip (strip a0)), (strip (strip t30_17)), (.int .i64 4)]) fun t45_27 =>
 u0y a0 (.int .i64 0) t30_17 t33_19)
 (u0y a0 (.int .i64 0) t30_17 t33_19))) := by
 rw [C, u02 _ _ rfl]; kernel_rfl
theorem u8p (a0 : PV) : C u1m [a0] =
 trunc (M.bind (bi .eql .none (strip a0) (.int .u8 115)) fun t5_0 =>
 condM t5_0
 (M.pure (.int .i64 (-2)))
 (M.bind (bi .eql .none (strip a0) (.int .u8 114)) fun t7_1 =>
 condM t7_1
 (M.pure (.int .i64 (-4)))
 (M.bind (bi .eql .none (strip a0) (.int .u8 113)) fun t9_2 =>
 condM t9_2
 (M.pure (.int .i64 (-10)))
 (M.bind (bi .eql .none (strip a0) (.int .u8 112)) fun t11_3 =>
 condM t11_3
 (M.pure (.int .i64 (-1)))
 (M.bind (bi .eql .none (strip a0) (.int .u8 111)) fun t13_4 =>
 condM t13_4
 (M.pure (.int .i64 (-3)))
 (M.bind (bi .eql .none (strip a0) (.int .u8 110)) fun t15_5 =>
 condM t15_5
 (M.pure (.int .i64 (-5)))
 (M.bind (bi .eql .none (strip a0) (.int .u8 109)) fun t17_6 =>
 condM t17_6
 (M.pure (.int .i64 (-6)))
 (M.bind (bi .eql .none (strip a0) (.int .u8 108)) fun t19_7 =>
 condM t19_7
 (M.pure (.int .i64 (-7)))
 (M.bind (bi .eql .none (strip a0) (.int .u8 107)) fun t21_8 =>
 condM t21_8
 (M.pure (.int .i64 (-8)))
 (M.bind (bi .eql .none (strip a0) (.int .u8 106)) fun t23_9 =>
 condM t23_9
 (M.pure (.int .i64 (-9)))
 (M.bind (bi .eql .none (strip a0) (.int .u8 105)) fun t25_10 =>
 condM t25_10
 (M.pure (.int .i64 (-11)))
 (M.bind (bi .eql .none (strip a0) (.int .u8 116)) fun t27_11 =>
 condM t27_11
 (M.pure (.int .i64 (-12)))
 (M.pure (.int .i64 0)))))))))))))) := by
 rw [C, u02 _ _ rfl]; kernel_rfl
theorem uhu (a0 a1 : PV) : C ua3 [a0, a1] =
 trunc (M.bind (bx 1 a0) fun t2_0 =>
 M.bind (bx 1 a1) fun t3_1 =>
 M.bind (ld none false t3_1) fun t10_2 =>
 M.bind (bi .lss .none t10_2 (.int .i64 0)) fun t11_3 =>
 M.bind (gd (strip t11_3) false (ld none false t3_1)) fun t13_4 =>
 M.bind (gd (strip t11_3) false (ld none false t2_0)) fun t14_5 =>
 M.bind (gd (strip t11_3) false (lnL t14_5)) fun t15_6 =>
 M.bind (gd (strip t11_3) false (bi .gtr .none t13_4 t15_6)) fun t16_7 =>
 M.bind (pick (strip t11_3) (.bool true) t16_7) fun t17_8 =>
 condM t17_8
 (M.pure (.tup [(.str ⟨#[]⟩), (.int .i64 0), (.int .i64 1)]))
 (M.bind (al [(.str ⟨#[]⟩)]) fun t7_9 =>
 M.bind (al [(.int .i64 0)]) fun t8_10 =>
 M.bind (st 1 false t7_9 (.str ⟨#[]⟩)) fun _ =>
 M.bind (st 1 false t8_10 (.int .i64 0)) fun _ =>
 M.bind (mf ub4 [] [t2_0, t3_1, t7_9, t8_10]) fun t18_13 =>
 M.bind (C ub0 [(strip t18_13)]) fun t19_14 =>
 M.bind (al [(.int .i64 0), (.int .i64 0)]) fun t9_15 =>
 M.bind (st 2 true t9_15 t19_14) fun _ =>
 M.bind (fa 1 t9_15) fun t20_17 =>
 M.bind (ld none false t20_17) fun t21_18 =>
 M.bind (bi .neq .none t21_18 (.int .i64 0)) fun t22_19 =>
 condM t22_19
 (nb (fa 0 t9_15) fun t23_20 =>
 nb (ld none true t23_20) fun t24_21 =>
 nb (fa 1 t9_15) fun t25_22 =>
 nb (ld none true t25_22) fun t26_23 =>
 resT t24_21 (resT t26_23 (M.pure (.tup [(.str ⟨#[]⟩), t24_21, t26_23]))))
 (nb (ld none true t7_9) fun t27_24 =>
 nb (ld none true t8_10) fun t28_25 =>
 resT t27_24 (resT t28_25 (M.pure (.tup [t27_24, t28_25, (.int .i64 0)])))))) := by
 rw [C, u02 _ _ rfl]; kernel_rfl
noncomputable def u4i (v0 v1 v2 v8 : PV) : M PV := atP P X u3a [1, 1] (mkEnv 20 0 [(0, v0), (1, v1), (2, v2), (8, v8)])
theorem u8e (v0 v1 v2 v8 : PV) : u4i v0 v1 v2 v8 =
 M.bind (nc P (strip v0)) fun t17_0 =>
 M.bind (fa 1 t17_0) fun t18_1 =>
 M.bind (st 1 true t18_1 v2) fun _ =>
 resT v1 (M.pure v1) :=
 (u0q P X _ _ _).trans (by kernel_rfl)
theorem u7j (a0 a1 a2 a3 : PV) : C u3a [a0, a1, a2, a3] =
 trunc (M.bind (bi .neq .none (strip a3) (.int .i64 0)) fun t10_0 =>
 condM t10_0
 (M.bind (C u0j [(strip (strip a0)), (strip (strip a2)), (strip (strip a3))]) fun t14_1 =>
 u4i a0 a1 a2 (.str ⟨#[]⟩))
 (u4i a0 a1 a2 (.str ⟨#[]⟩))) := by
 rw [C, u02 _ _ rfl]; kernel_rfl
theorem u9o (a0 a1 a2 : PV) : C u51 [a0, a1, a2] =
 trunc (M.bind (C u5r [(strip (strip a0)), (strip (strip a1)), (strip (strip a2))]) fun t18_0 =>
 M.bind (ex 0 t18_0) fun t19_1 =>
 M.bind (ex 1 (tupDrop 0 t18_0)) fun t20_2 =>
 M.bind (ex 2 (tupDrop 1 (tupDrop 0 t18_0))) fun t21_3 =>
 M.bind (bi .neq .none (strip t21_3) (.int .i64 0)) fun t23_4 =>
 condM t23_4
 (resT t20_2 (resT t21_3 (M.pure (.tup [(.str ⟨#[]⟩), t20_2, t21_3]))))
 (M.bind (bi .gtr .none (strip t19_1) (.int .u32 65536)) fun t27_5 =>
 condM t27_5
 (resT a1 (M.pure (.tup [(.str ⟨#[]⟩), a1, (.int .i64 2)])))
 (M.bind (bi .sub .none (strip a2) (strip t20_2)) fun t31_6 =>
 M.bind (cv (.int .i64) true (strip t19_1)) fun t33_7 =>
 M.bind (bi .lss .none t31_6 t33_7) fun t34_8 =>
 condM t34_8
 (resT a2 (M.pure (.tup [(.str ⟨#[]⟩), a2, (.int .i64 3)])))
 (M.bind (cv (.int .i64) true (strip t19_1)) fun t41_9 =>
 M.bind (bi .add .none (strip t20_2) t41_9) fun t42_10 =>
 M.bind (slL 1 (strip a0) (some (strip t20_2)) (some t42_10)) fun t43_11 =>
 M.bind (C u30 [(strip t43_11)]) fun t44_12 =>
 M.bind (ex 0 t44_12) fun t45_13 =>
 M.bind (ex 1 (tupDrop 0 t44_12)) fun t46_14 =>
 M.bind (un .not (strip t46_14)) fun t48_15 =>
 condM t48_15
 (M.bind (bi .add .none (strip t20_2) (strip t45_13)) fun t51_16 =>
 resT t51_16 (M.pure (.tup [(.str ⟨#[]⟩), t51_16, (.int .i64 21)])))
 (M.bind (cv (.int .i64) true (strip t19_1)) fun t56_17 =>
 M.bind (bi .add .none (strip t20_2) t56_17) fun t57_18 =>
 M.bind (slL 1 (strip a0) (some (strip t20_2)) (some t57_18)) fun t58_19 =>
 M.bind (cv .bytesToStr true t58_19) fun t59_20 =>
 M.bind (cv (.int .i64) true (strip t19_1)) fun t62_21 =>
 M.bind (bi .add .none (strip t20_2) t62_21) fun t63_22 =>
 resT t59_20 (resT t63_22 (M.pure (.tup [t59_20, t63_22, (.int .i64 0)])))))))) := by
 rw [C, u02 _ _ rfl]; kernel_rfl
theorem u9v (a0 a1 a2 : PV) : C u4y [a0, a1, a2] =
 trunc (M.bind (bi .geq .none (strip a1) (.int .i64 0)) fun t8_0 =>
 M.bind (gd (strip t8_0) true (M.pure (strip a2))) fun t10_1 =>
 M.bind (gd (strip t8_0) true (M.pure (strip a0))) fun t11_2 =>
 M.bind (gd (strip t8_0) true (lnL t11_2)) fun t12_3 =>
 M.bind (gd (strip t8_0) true (bi .leq .none t10_1 t12_3)) fun t13_4 =>
 M.bind (pick (strip t8_0) t13_4 (.bool false)) fun t14_5 =>
 M.bind (gd (strip t14_5) true (M.pure (strip a1))) fun t16_6 =>
 M.bind (gd (strip t14_5) true (M.pure (strip a2))) fun t17_7 =>
 M.bind (gd (strip t14_5) true (bi .leq .none t16_6 t17_7)) fun t18_8 =>
 M.bind (pick (strip t14_5) t18_8 (.bool false)) fun t19_9 =>
 resT t19_9 (M.pure t19_9)) := by
 rw [C, u02 _ _ rfl]; kernel_rfl
theorem uau (a0 a1 a2 a3 : PV) : C u5e [a0, a1, a2, a3] =
 trunc (M.bind (bi .mul .none (.int .i64 7) (strip a2)) fun t13_0 =>
 M.bind (bi .sub .none (strip a1) t13_0) fun t14_1 =>
 M.bind (bi .geq .none (strip a0) (.int .u8 128)) fun t16_2 =>
 condM t16_2
 (M.pure (.bool false))
 (M.bind (cv (.int .i64) true (strip a0)) fun t18_3 =>
 M.bind (cv (.int .u64) true (strip t14_1)) fun t20_4 =>
 M.bind (bi .shr .none t18_3 t20_4) fun t21_5 =>
 M.bind (un .not (strip a3)) fun t23_6 =>
 condM t23_6
 (M.bind (bi .eql .none (strip t21_5) (.int .i64 0)) fun t25_7 =>
 resT t25_7 (M.pure t25_7))
 (M.bind (cv (.int .i64) true (strip a0)) fun t27_8 =>
 M.bind (bi .sub .none (strip t14_1) (.int .i64 1)) fun t29_9 =>
 M.bind (cv (.int .u64) true t29_9) fun t30_10 =>
 M.bind (bi .shr .none t27_8 t30_10) fun t31_11 =>
 M.bind (bi .eql .none (strip t31_11) (.int .i64 0)) fun t33_12 =>
 M.bind (gd (strip t33_12) false (M.pure (strip t31_11))) fun t35_13 =>
 M.bind (gd (strip t33_12) false (M.pure (strip t14_1))) fun t36_14 =>
 M.bind (gd (strip t33_12) false (bi .sub .none (.int .i64 8) t36_14)) fun t37_15 =>
 M.bind (gd (strip t33_12) false (cv (.int .u64) true t37_15)) fun t38_16 =>
 M.bind (gd (strip t33_12) false (bi .shl .none (.int .i64 1) t38_16)) fun t39_17 =>
 M.bind (gd (strip t33_12) false (bi .sub .none t39_17 (.int .i64 1))) fun t40_18 =>
 M.bind (gd (strip t33_12) false (bi .eql .none t35_13 t40_18)) fun t41_19 =>
 M.bind (pick (strip t33_12) (.bool true) t41_19) fun t42_20 =>
 resT t42_20 (M.pure t42_20)))) := by
 rw [C, u02 _ _ rfl]; kernel_rfl
theorem u7n (a0 a1 a2 a3 : PV) : C u35 [a0, a1, a2, a3] =
 trunc (M.bind (C u5h [(strip (strip a0)), (strip (strip a1)), (strip (strip a2))]) fun t19_0 =>
 M.bind (ex 0 t19_0) fun t20_1 =>
 M.bind (ex 1 (tupDrop 0 t19_0)) fun t21_2 =>
 M.bind (al [(.slice false true 0 []), (.int .i64 0), (.int .i64 0)]) fun t11_3 =>
 M.bind (st 3 true t11_3 t20_1) fun _ =>
 M.bind (bi .neq .none (strip t21_2) (.int .i64 0)) fun t23_5 =>
 condM t23_5
 (resT t21_2 (M.pure (.tup [(.int .u64 0), (.int .i64 0), t21_2])))
 (M.bind (ld (some 3) false t11_3) fun t27_6 =>
 M.bind (callV P C (strip a3) [(strip t27_6)]) fun t28_7 =>
 M.bind (ex 0 t28_7) fun t29_8 =>
 M.bind (ex 1 (tupDrop 0 t28_7)) fun t30_9 =>
 M.bind (ex 2 (tupDrop 1 (tupDrop 0 t28_7))) fun t31_10 =>
 resT t29_8 (resT t30_9 (resT t31_10 (M.pure (.tup [t29_8, t30_9, t31_10])))))) := by
 rw [C, u02 _ _ rfl]; kernel_rfl
theorem upy (a0 : PV) : C ucc [a0] =
 trunc (M.bind (bx 3 a0) fun t1_0 =>
 M.bind (ld (some 3) false t1_0) fun t5_1 =>
 M.bind (C u1i [(strip t5_1), (.int .i64 64)]) fun t6_2 =>
 M.bind (ex 0 t6_2) fun t7_3 =>
 M.bind (ex 1 (tupDrop 0 t6_2)) fun t8_4 =>
 M.bind (ex 2 (tupDrop 1 (tupDrop 0 t6_2))) fun t9_5 =>
 resT t7_3 (resT t8_4 (resT t9_5 (M.pure (.tup [t7_3, t8_4, t9_5]))))) := by
 rw [C, u02 _ _ rfl]; kernel_rfl
theorem u7a (a0 a1 a2 a3 : PV) : C u34 [a0, a1, a2, a3] =
 trunc (M.bind (C u5h [(strip (strip a0)), (strip (strip a1)), (strip (strip a2))]) fun t19_0 =>
 M.bind (ex 0 t19_0) fun t20_1 =>
 M.bind (ex 1 (tupDrop 0 t19_0)) fun t21_2 =>
 M.bind (al [(.slice false true 0 []), (.int .i64 0), (.int .i64 0)]) fun t11_3 =>
 M.bind (st 3 true t11_3 t20_1) fun _ =>
 M.bind (bi .neq .none (strip t21_2) (.int .i64 0)) fun t23_5 =>
 condM t23_5
 (resT t21_2 (M.pure (.tup [(.int .u32 0), (.int .i64 0), t21_2])))
 (M.bind (ld (some 3) false t11_3) fun t27_6 =>
 M.bind (callV P C (strip a3) [(strip t27_6)]) fun t28_7 =>
 M.bind (ex 0 t28_7) fun t29_8 =>
 M.bind (ex 1 (tupDrop 0 t28_7)) fun t30_9 =>
 M.bind (ex 2 (tupDrop 1 (tupDrop 0 t28_7))) fun t31_10 =>
 M.bind (cv (.int .u32) true (strip t29_8)) fun t33_11 =>
 resT t33_11 (resT t30_9 (resT t31_10 (M.pure (.tup [t33_11, t30_9, t31_10])))))) := by
 rw [C, u02 _ _ rfl]; kernel_rfl
end Go.Proofs.YthnmienjiangkaaGreatDoor.Pi.Q
