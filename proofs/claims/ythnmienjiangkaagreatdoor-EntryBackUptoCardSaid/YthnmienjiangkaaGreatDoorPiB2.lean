/- What the law rests on, part 3 of 5: a reading of the program's code over told data, and what it comes to. -/
import Derived.Test.YthnmienjiangkaaGreatDoorPiB1
set_option linter.unusedVariables false
set_option linter.unusedSimpArgs false
set_option maxRecDepth 100000
namespace Go.Proofs.YthnmienjiangkaaGreatDoor.Pi
variable {P : Program} {g : G} {L L' : Owner} {w w' : World} {H : Heap} {x : Nat} {env : Env}
def slotV (env : Env) : PV := env.getD (env.length - 1) .undef
theorem ModeOk.mono {rv : Option PV} {u : FrameMode} (h : ModeOk g rv u) {g' : G} (hι : ∀ (i b : Nat), g.ι[i]? = some b → g'.ι[i]? = some b) (him : ∀ b o v, g.im b o = some v → g'.im b o = some v) : ModeOk g' rv u := by
  cases rv with
  | none => exact h
  | some p => obtain ⟨cv, h1, h2⟩ := h; exact ⟨cv, h1, h2.mono hι him⟩
theorem uk6 {tm : Array Value} (hT : TOk 1 g env tm) : slotV env = .undef ∨ slotV env = .tup [] := by
  have hl := hT.len
  have h1 : env.length - 1 < env.length := by omega
  unfold slotV
  rw [List.getD_eq_getElem?_getD, List.getElem?_eq_getElem h1]
  exact hT.slot (env.length - 1) _ (by omega) (List.getElem?_eq_getElem h1)
theorem ug5 {tm : Array Value} (hT : TOk 1 g env tm) (s : Option (Tmp × Option Nat)) : slotV (giveUp env s) = slotV env := by
  have hs := uk6 hT
  unfold slotV at hs ⊢
  rw [u6z]
  unfold giveUp
  split
  · rw [u7d]
    split
    · rename_i hh
      rw [hh.1]
      exact ue7 hs
    · rfl
  · rw [u7d]
    split
    · rename_i hh
      rw [hh.1]
      exact uas _ hs
    · rfl
  · rfl
theorem ujw {d : Nat} {v : PV} (hd : d + 1 < env.length) : slotV (env.set d v) = slotV env := by
  unfold slotV
  rw [List.length_set, u7d, if_neg (by omega)]
theorem ug3 {pr : List Tmp} {d : Tmp} (h : okDst true pr env (some d) = true) : d + 1 < env.length := by
  unfold okDst at h
  simp only [Bool.and_eq_true, Bool.or_eq_true, Bool.not_eq_true', decide_eq_true_eq] at h
  rcases h.2 with h1 | h1
  · cases h1
  · exact h1
theorem uzj {rc : Option (Option PV)} {pr : List Tmp} {ops : Array Oper} {o : Oper} {v : PV} {tm : Array Value} (hT : TOk 1 g env tm) (hr : u0i o = false) (hd : okDst true pr env o.dst = true) : slotV (put rc ops env o v) = slotV env := by
  have htook : took rc o (giveUp env (given ops o)) = giveUp env (given ops o) := by
    unfold took
    simp [hr]
  unfold Pi.put
  rw [htook]
  cases hdst : o.dst with
  | none => exact ug5 hT _
  | some d =>
    rw [hdst] at hd
    have h1 := ug3 hd
    show slotV ((giveUp env (given ops o)).set d v) = _
    rw [ujw (by rw [u6z]; exact h1)]
    exact ug5 hT _
structure StaD (c : Ctx) (rv : Option PV) (u : FrameMode) (g : G) (H : Heap) (env : Env) (a : Act) (w : World) (m : FrameMode) : Prop where
  sta : Sta c g H env a w []
  mode : ModeOk g rv u
  now : m = u63 (slotV env) u
  defs : a.defers = []
theorem uj4 (a : Act) (d : Option Tmp) (v : Value) : (a.put d v).defers = a.defers := by cases d <;> rfl
theorem v00p {c : Ctx} {a : Act} (h : a.defers = []) : DefsOk c g env [] a.defers := by rw [h]; exact True.intro
theorem TOk.took {tm : Array Value} (h : TOk 1 g env tm) : TOk 1 g (env.set (env.length - 1) (.tup [])) tm := by
  have hl := h.len
  refine ⟨h.one, by simp [hl], fun t v p hv hp => ?_, fun t p ht hp => ?_⟩
  · have h1 := (Array.getElem?_eq_some_iff.mp hv).1
    rw [List.getElem?_set_ne (by omega)] at hp
    exact h.val t v p hv hp
  · by_cases e : env.length - 1 = t
    · subst e
      rw [List.getElem?_set_self (by omega)] at hp
      cases hp
      exact .inr rfl
    · rw [List.getElem?_set_ne e] at hp
      exact h.slot t p ht hp
theorem uyx {c : Ctx} {rv : Option PV} {u m : FrameMode} {a : Act} {ops : Array Oper} {o : Oper} {v : PV} {cv : Value} (hrc : c.rc = some rv) (hS : StaD c rv u g H env a w m) (hrec : u0i o = true) (hgv : given ops o = none)
    (hd : okDst true c.prot env o.dst = true) (hv : ∀ L, RepT g L v cv) : Sta c g H (put c.rc ops env o v) (a.put o.dst cv) w [] ∧ slotV (put c.rc ops env o v) = .tup [] := by
  have hT : TOk 1 g env a.tmps := by
    have := hS.sta.tok
    rw [hrc] at this
    exact this
  have hl := hT.len
  have htook : took c.rc o (giveUp env (given ops o)) = env.set (env.length - 1) (.tup []) := by
    rw [hgv, hrc]
    unfold took giveUp
    simp [hrec]
  have hs : slotV (env.set (env.length - 1) (.tup [])) = .tup [] := by
    unfold slotV
    rw [List.length_set, u7d, if_pos ⟨rfl, by omega⟩]
  have hx : xOf c.rc = 1 := by rw [hrc]; rfl
  refine ⟨⟨hS.sta.inv, ?_, by rw [uj4]; exact v00p (by rw [hS.defs])⟩, ?_⟩
  · unfold Pi.put
    rw [htook, hx]
    cases hdst : o.dst with
    | none => exact hT.took
    | some d =>
      rw [hdst] at hd
      exact hT.took.put (.inr (by rw [List.length_set]; exact ug3 hd)) (hv _)
  · unfold Pi.put
    rw [htook]
    cases hdst : o.dst with
    | none => exact hs
    | some d =>
      rw [hdst] at hd
      show slotV ((env.set (env.length - 1) (.tup [])).set d v) = _
      rw [ujw (by rw [List.length_set]; exact ug3 hd)]
      exact hs
theorem uf4 (v : PV) : u63 v .returning = .returning := by
  unfold u63
  split <;> first | rfl | (rename_i h; cases h) | rfl
def LeafD (c : Ctx) (rv : Option PV) (u : FrameMode) (c0 : Frame) (cs0 : List Frame) (g0 : G) (w0 : World) (out : Out PV) (k : Env → M PV) (Q : Act → List Frame → World → Prop) : Prop :=
  ∀ env a w g H m, Glob g0 w0 g w → StaD c rv u g H env a w m → k env H = some out → Q a ({ c0 with mode := m } :: cs0) w
variable {c : Ctx} {rv : Option PV} {u : FrameMode} {c0 : Frame} {cs0 : List Frame} {g0 : G} {w0 : World} {v0 : PV} {H0 : Heap}
theorem uco (hC : CSound c.P c.C) (hrc : c.rc = some rv) {ops : Array Oper} {k : Env → M PV} {Q : Exit → Act → List Frame → World → Prop} (hleaf : LeafD c rv u c0 cs0 g0 w0 (.ok v0 H0) k (Q .normal)) :
    ∀ (l : List Oper) (i : Nat) (env : Env) (a : Act) (w : World) (g : G) (H : Heap) (m : FrameMode), (∀ j, l[j]? = ops[i + j]?) → (∀ o ∈ l, ubo o = true) → Glob g0 w0 g w → StaD c rv u g H env a w m →
      dOps c ops l env k H = some (.ok v0 H0) → wpOpsS c.P ops Q (List.range' i l.length) a ({ c0 with mode := m } :: cs0) w
  | [], i, env, a, w, g, H, m, hl, hs, hgl, hS, h => hleaf env a w g H m hgl hS h
  | o :: r, i, env, a, w, g, H, m, hl, hs, hgl, hS, h => by
    have hr : ∀ j, r[j]? = ops[i + 1 + j]? := fun j => by
      have := hl (j + 1)
      rw [List.getElem?_cons_succ] at this
      rw [this]
      congr 1
      omega
    have ho : ops[i]? = some o := by
      have := hl 0
      simpa using this.symm
    have hso := hs o List.mem_cons_self
    have hsr : ∀ o ∈ r, ubo o = true := fun q hq => hs q (List.mem_cons_of_mem _ hq)
    rw [List.length_cons, uhv]
    simp only [wpOpsS, ho]
    rw [ub0] at h
    obtain ⟨hok, h⟩ := u0a h
    have hok' : okDst true c.prot env o.dst = true := by
      rw [hrc] at hok
      exact hok
    have hT : TOk 1 g env a.tmps := by
      have := hS.sta.tok
      rw [hrc] at this
      exact this
    have h : M.bind (gval c.P c.C c.rc ops env o) (fun v => dOps c ops r (put c.rc ops env o v) k) H = some (.ok v0 H0) := by
      obtain ⟨dst, op, ty, pos, after, guard⟩ := o
      cases op <;> first | exact h | (simp [ubo] at hso)
    unfold M.bind at h
    cases hg : gval c.P c.C c.rc ops env o H with
    | none => rw [hg] at h; simp at h
    | some o1 =>
      rw [hg] at h
      cases o1 with
      | pan v H1 => simp at h
      | ok v H1 =>
        have hnx : dOps c ops r (put c.rc ops env o v) k H1 = some (.ok v0 H0) := h
        clear h
        cases hrec : u0i o with
        | false =>
          have hst := uph (Q := fun e a w => Q e a ({ c0 with mode := m } :: cs0) w) (next := fun a w => wpOpsS c.P ops Q (List.range' (i + 1) r.length) a ({ c0 with mode := m } :: cs0) w)
            hC (.inr hrec) hS.sta hok hg (fun v' H1' g' a' w' he hgl' hS' => by
              cases he
              have hda : a'.defers = [] := by
                have := hS'.defs
                cases hd : a'.defers with
                | nil => rfl
                | cons x y => rw [hd] at this; exact this.elim
              refine uco hC hrc hleaf r (i + 1) _ a' w' g' H1 m hr hsr (hgl.trans hgl') ⟨hS', hS.mode.mono hgl'.up.ι hgl'.up.im, ?_, hda⟩ hnx
              rw [uzj hT hrec hok']
              exact hS.now) (fun v' H1' g' w' cv he => by cases he)
          split
          · rename_i hw
            rw [if_pos hw] at hst
            unfold Oper.wp at hst
            generalize (execOp a.eval o).run c.P w = q at hst ⊢
            split
            · exact (show False from hst).elim
            · exact hst
          · rename_i hw
            rw [if_neg hw] at hst
            exact hst
        | true =>
          obtain ⟨dst, op, ty, pos, after, guard⟩ := o
          cases op with
          | call cl =>
            obtain ⟨callee, args, tys⟩ := cl
            cases callee with
            | builtin b =>
              cases b with
              | recover =>
                have hgd : guard = none := by
                  cases guard with
                  | none => rfl
                  | some q => simp [ubo, hrec] at hso
                subst hgd
                have hv : v = recV c.rc env ∧ H1 = H := by
                  have hg2 : opVal c.P c.C c.rc ops env ⟨dst, .call ⟨.builtin .recover, args, tys⟩, ty, pos, after, none⟩ H = some (.ok v H1) := hg
                  rw [hrc] at hg2 ⊢
                  have hg3 : M.pure (recV (some rv) env) H = some (.ok v H1) := hg2
                  simp only [M.pure, Option.some.injEq, Out.ok.injEq] at hg3
                  exact ⟨hg3.1.symm, hg3.2.symm⟩
                obtain ⟨rfl, rfl⟩ := hv
                have hrun : (execOp a.eval ⟨dst, .call ⟨.builtin .recover, args, tys⟩, ty, pos, after, none⟩).run c.P w = .ok .recover w := rfl
                have hw : Region.wanted ⟨dst, .call ⟨.builtin .recover, args, tys⟩, ty, pos, after, none⟩ (yielded ops a.tmps) = true := rfl
                rw [if_pos hw, hrun]
                dsimp only
                have fin : ∀ (cv : Value) (m' : FrameMode), (∀ L, RepT g L (recV c.rc env) cv) → m' = u63 (.tup []) u → wpOpsS c.P ops Q (List.range' (i + 1) r.length) (a.put dst cv) ({ c0 with mode := m' } :: cs0) w := by
                  intro cv m' hv hm
                  obtain ⟨h1, h2⟩ := uyx (ops := ops) hrc hS hrec rfl hok' hv
                  exact uco hC hrc hleaf r (i + 1) _ _ w g H1 m' hr hsr hgl ⟨h1, hS.mode, by rw [h2]; exact hm, by rw [uj4]; exact hS.defs⟩ hnx
                have hnil : ∀ L, RepT g L .niliface .nilIface := fun L => rT (.flat .niliface) _
                have hmode := hS.mode
                have hnow := hS.now
                cases rv with
                | none =>
                  have hu : u = .returning := hmode
                  subst hu
                  rw [uf4] at hnow
                  subst hnow
                  refine fin .nilIface _ (fun L => ?_) (uf4 _).symm
                  rw [hrc]
                  exact hnil L
                | some p =>
                  obtain ⟨cv, rfl, hp⟩ := hmode
                  rcases uk6 hT with hsl | hsl
                  · rw [hsl] at hnow
                    subst hnow
                    refine fin cv _ (fun L => ?_) rfl
                    have : recV c.rc env = p := by
                      rw [hrc]
                      unfold recV
                      show (match slotV env with | .tup [] => PV.niliface | _ => p) = p
                      rw [hsl]
                    rw [this]
                    exact rT hp L
                  · rw [hsl] at hnow
                    subst hnow
                    refine fin .nilIface _ (fun L => ?_) rfl
                    have : recV c.rc env = .niliface := by
                      rw [hrc]
                      unfold recV
                      show (match slotV env with | .tup [] => PV.niliface | _ => p) = _
                      rw [hsl]
                    rw [this]
                    exact hnil L
              | _ => cases hrec
            | _ => cases hrec
          | _ => cases hrec
theorem uvi {rc : Option (Option PV)} {pr : List Tmp} {ops : Array Oper} {o : Oper} {v : PV} (hs : slotV env = .undef ∨ slotV env = .tup []) (hr : u0i o = false) (hd : okDst true pr env o.dst = true) : slotV (put rc ops env o v) = slotV env := by
  have hg : slotV (giveUp env (given ops o)) = slotV env := by
    unfold slotV at hs ⊢
    rw [u6z]
    unfold giveUp
    split
    · rw [u7d]
      split
      · rename_i hh
        rw [hh.1]
        exact ue7 hs
      · rfl
    · rw [u7d]
      split
      · rename_i hh
        rw [hh.1]
        exact uas _ hs
      · rfl
    · rfl
  have htook : took rc o (giveUp env (given ops o)) = giveUp env (given ops o) := by
    unfold took
    simp [hr]
  unfold Pi.put
  rw [htook]
  cases hdst : o.dst with
  | none => exact hg
  | some d =>
    rw [hdst] at hd
    have h1 := ug3 hd
    show slotV ((giveUp env (given ops o)).set d v) = _
    rw [ujw (by rw [u6z]; exact h1)]
    exact hg
theorem u9h (hC : CSound c.P c.C) (hrc : c.rc = some rv) {LL : LoopT} :
    ∀ (co : Code) (af : List Tmp) (k : K) (Q : Exit → Act → List Frame → World → Prop), u7m co = true → (∀ e, LeafD c rv u c0 cs0 g0 w0 (.ok v0 H0) (k e) (Q e.to)) →
      ∀ env a w g H m, Glob g0 w0 g w → StaD c rv u g H env a w m → den c LL af co env k H = some (.ok v0 H0) → co.wpS c.P Q a ({ c0 with mode := m } :: cs0) w
  | .skip, af, k, Q, hs, hk, env, a, w, g, H, m, hgl, hS, h => wpS_of_wp (wp_skip (hk .normal env a w g H m hgl hS h))
  | .ret, af, k, Q, hs, hk, env, a, w, g, H, m, hgl, hS, h => wpS_of_wp (wp_ret (hk .ret env a w g H m hgl hS h))
  | .region id ops false, af, k, Q, hs, hk, env, a, w, g, H, m, hgl, hS, h => by
    refine wpS_region ?_
    have hs' : ∀ o ∈ ops.toList, ubo o = true := fun o ho => List.all_eq_true.mp hs o ho
    have := uco (Q := Q) hC hrc (hk .normal) ops.toList 0 env a w g H m (fun j => by simp) hs' hgl hS h
    rwa [List.range_eq_range', ← Array.length_toList]
  | .region id ops true, af, k, Q, hs, hk, env, a, w, g, H, m, hgl, hS, h => by
    have h : guardM (c.P.follows .mixedOrders && commB ops) (bif modeP ops && c.rc.isNone then dOpsP c ops env (k .normal) else bif ops.any u4e || c.rc.isSome then dOpsW c ops 0 [] ops.toList env (k .normal) else dOpsN c ops ops.toList env (k .normal)) H = some (.ok v0 H0) := h
    obtain ⟨hg, h⟩ := u0a h
    simp only [Bool.and_eq_true] at hg
    have hbr : (ops.any u4e || c.rc.isSome) = true := by rw [hrc]; simp
    have hbp : (modeP ops && c.rc.isNone) = false := by rw [hrc]; simp
    rw [hbp, hbr] at h
    have hT : TOk 1 g env a.tmps := by
      have := hS.sta.tok
      rw [hrc] at this
      exact this
    obtain ⟨e', H', L, l1, _, l3, l4, hk'⟩ := uok ops.toList [] 0 env H (fun j => by simp) h
    refine wpS_of_wp (wp_region_any hg.1 (ubr (c := c) (Q := fun e a w => Q e a ({ c0 with mode := m } :: cs0) w) hC hg.2 (R := fun l e K => slotV e = slotV env ∧ RW c ops e' H' l e K) (Δ := []) (g0 := g) (w0 := w)
      (fun A i B oi e K hi ha hnb hR => ?_) (fun e K g' a' w' hR hgl' hS' => ?_) ops.size _ env H a _ g (by simp) ?_ ?_ ?_ (uba g w) hS.sta.drew))
    · obtain ⟨r1, r2⟩ := hR
      obtain ⟨h1, v, H1, h2, h3⟩ := RW.front hg.2 A i B oi e K hi ha hnb r2
      refine ⟨h1, v, H1, h2, ?_, h3⟩
      rw [hrc] at h1
      rw [uvi (by rw [r1]; exact uk6 hT) (u4d hg.2 hi).1 h1, r1]
    · obtain ⟨r1, r2⟩ := hR
      obtain ⟨rfl, rfl⟩ := r2.nil
      refine hk .normal e a' w' g' K m (hgl.trans hgl') ⟨hS', hS.mode.mono hgl'.up.ι hgl'.up.im, by rw [r1]; exact hS.now, ?_⟩ hk'
      have := hS'.defs
      cases hd : a'.defers with
      | nil => rfl
      | cons x y => rw [hd] at this; exact this.elim
    · exact Nat.le_trans (List.length_filter_le _ _) (by simp)
    · intro j i hj hl
      simp [Array.getD_eq_getD_getElem?, hj] at hl
    · refine ⟨rfl, ?_⟩
      have hall : restOf ops (Array.replicate ops.size false) = List.range' 0 ops.toList.length := by
        unfold restOf
        rw [List.filter_eq_self.mpr, List.range_eq_range', Array.length_toList]
        intro i hi
        simp [Array.getD_eq_getD_getElem?, List.mem_range.mp hi]
      rw [hall]
      exact ⟨L, l1, l3, l4⟩
  | .seq y z, af, k, Q, hs, hk, env, a, w, g, H, m, hgl, hS, h => by
    have hs1 : u7m y = true ∧ u7m z = true := by simpa [u7m] using hs
    refine wpS_seq (u9h hC hrc y ((rw z).1 ++ af) _ (Exit.thenS (z.wpS c.P Q) Q) hs1.1 (fun e => ?_) env a w g H m hgl hS h)
    cases e with
    | normal =>
      intro env a w g H m hgl hS h
      have h : (bif c.rc.isNone && joinB y then LL af z (keep ((rw z).1 ++ af) env) k else den c LL af z env k) H = some (.ok v0 H0) := h
      rw [hrc] at h
      exact u9h hC hrc z af k Q hs1.2 hk env a w g H m hgl hS h
    | exit id => exact hk (.exit id)
    | ret => exact hk .ret
  | .cond q y z, af, k, Q, hs, hk, env, a, w, g, H, m, hgl, hS, h => by
    have hs1 : u7m y = true ∧ u7m z = true := by simpa [u7m] using hs
    have rq := ev_rep hS.sta.inv hS.sta.tok q
    have h : condM (ev env q) (den c LL af y env k) (den c LL af z env k) H = some (.ok v0 H0) := h
    unfold condM at h
    cases hv : ev env q with
    | bool b =>
      rw [hv] at h rq
      have hq := rq.bool
      dsimp only at h
      refine wpS_cond hq ?_
      cases b
      · exact u9h hC hrc z af k Q hs1.2 hk env a w g H m hgl hS h
      · exact u9h hC hrc y af k Q hs1.1 hk env a w g H m hgl hS h
    | _ => (rw [hv] at h; exact (u01 (H := H) h).elim)
theorem TOk.slotted {tm : Array Value} (h : TOk 0 g env tm) : TOk 1 g (env ++ [.undef]) tm := by
  have hl := h.len
  refine ⟨Nat.le_refl 1, by simp [hl], fun t v p hv hp => ?_, fun t p ht hp => ?_⟩
  · have h1 := (Array.getElem?_eq_some_iff.mp hv).1
    rw [List.getElem?_append_left (by omega)] at hp
    exact h.val t v p hv hp
  · rw [List.getElem?_append_right (by omega)] at hp
    have := List.mem_of_getElem? hp
    exact .inl (by simpa using this)
theorem utf {m : M PV} {o : Out PV} (h : noPan m H = some o) : ∃ v H', o = .ok v H' ∧ m H = some (.ok v H') := by
  unfold noPan at h
  split at h
  · rename_i v H' hm
    cases h
    exact ⟨v, H', rfl, hm⟩
  · cases h
theorem uz2 {m : M PV} {v : PV} {H' : Heap} (h : trunc m H = some (.ok v H')) : ∃ H1, m H = some (.ok v H1) ∧ H' = bif v.low H.length then H1.take H.length else H1 := by
  unfold trunc at h
  split at h
  · cases h
  · rename_i v1 H1 hm
    cases h
    exact ⟨H1, hm, rfl⟩
  · rename_i v1 H1 hm
    cases hl : v1.low H.length <;> rw [hl] at h <;> cases h
theorem uno {C : CallT} {CD : Option PV → CallT} {LL : Option (Option PV) → List Tmp → (Env → M PV) → LoopT} (hC : CSound P C) {rv : Option PV} {f : FuncId} {args : List PV} {out : Out PV} (h : fnDenD P C CD LL rv f args H = some out) :
    u7u P f = true ∧ ∃ v H', out = .ok v H' ∧ ∀ g w cargs u, Inv g H w → ArgsOk g args cargs → ModeOk g rv u →
      CallsD P f cargs u w fun e u' w' => ∃ g' cv, Glob g w g' w' ∧ Grow u9c g g' ∧ e = .returned cv ∧ Inv g' H' w' ∧ u' = u63 v u := by
  unfold fnDenD at h
  cases hf : P.funcs[f]? with
  | none => rw [hf] at h; exact (u01 (H := H) h).elim
  | some fn =>
    rw [hf] at h
    dsimp only at h
    cases hb : fn.body with
    | none => rw [hb] at h; exact (u01 (H := H) h).elim
    | some b =>
      rw [hb] at h
      dsimp only at h
      obtain ⟨hn, h⟩ := u0a h
      simp only [Bool.and_eq_true] at hn
      obtain ⟨hsb, hre, hn⟩ := hn
      obtain ⟨v, H', rfl, h2⟩ := utf h
      obtain ⟨H1, h3, rfl⟩ := uz2 h2
      refine ⟨by unfold u7u; rw [hf]; simp only [hn, hb]; rfl, v, _, rfl, fun g w cargs u hi ha hm => ?_⟩
      refine callsD_of_wpS hf hb fun c₀ cs hu => ?_
      have hend : ∀ (env : Env) (a : Act) (w1 : World) (g1 : G) (H2 : Heap) (m : FrameMode), Glob (g.ren upF) w g1 w1 → StaD ⟨P, protOf fn, C, CD, some rv, resM P fn⟩ rv u g1 H2 env a w1 m → M.pure (env.getD (env.length - 1) .undef) H2 = some (.ok v H1) →
          a.defers = [] ∧ ∃ u', ({ c₀ with mode := m } : Frame) :: cs = { c₀ with mode := u' } :: cs ∧ ∃ vv, (results fn a.tmps).run P w1 = .ok vv w1 ∧ ∃ g' cv, Glob g w g' w1 ∧ Grow u9c g g' ∧ Ending.returned vv = .returned cv ∧ Inv g' (bif v.low H.length then H1.take H.length else H1) w1 ∧ u' = u63 v u := by
        intro env a w1 g1 H2 m hgl hS hp
        simp only [M.pure, Option.some.injEq, Out.ok.injEq] at hp
        obtain ⟨hv, rfl⟩ := hp
        have hrs : (results fn a.tmps).run P w1 = .ok (.tuple #[]) w1 := by
          have he : fn.results.toList = [] := by
            have : fn.results = #[] := by simpa using hre
            rw [this]
          have := uho (P := P) (w := w1) (fn := fn) (tm := a.tmps) (vs := []) (by rw [he]; rfl)
          simpa using this
        have hsl : v = .undef ∨ v = .tup [] := by
          have := uk6 (hS.sta.tok : TOk 1 g1 env a.tmps)
          rw [← hv]
          exact this
        have hrep : RepT g1 .res v (.tuple #[]) := by
          rcases hsl with rfl | rfl
          · exact .one (.undef _)
          · exact .tup rfl fun j p q hp => by simp at hp
        obtain ⟨g', h1, h2, cv, h3, h4, h5⟩ := uud hi.len hgl hS.sta.inv hrep
        refine ⟨hS.defs, m, rfl, _, hrs, g', cv, h1, h2, h3, h4, ?_⟩
        rw [hS.now, ← hv]
        rfl
      have hst : StaD ⟨P, protOf fn, C, CD, some rv, resM P fn⟩ rv u (g.ren upF) H (args ++ List.replicate (fn.ntmps - args.length) .undef ++ [.undef]) { tmps := cargs ++ Array.replicate (fn.ntmps - cargs.size) undef, defers := [] } w u := by
        refine ⟨⟨hi.ren (fun _ _ => rfl), (ull ha).slotted, True.intro⟩, hm.mono (fun _ _ h => h) (fun _ _ _ h => h), ?_, rfl⟩
        have : slotV (args ++ List.replicate (fn.ntmps - args.length) .undef ++ [.undef]) = .undef := by
          unfold slotV
          simp
        rw [this]
        unfold u63
        split <;> first | rfl | (rename_i h; cases h)
      have := u9h (c := ⟨P, protOf fn, C, CD, some rv, resM P fn⟩) (u := u) (c0 := c₀) (cs0 := cs) (g0 := g.ren upF) (w0 := w) hC rfl b (fn.ntmps :: ueb fn) _ (bodyPostS P fn c₀ cs fun e u' w' => ∃ g' cv, Glob g w g' w' ∧ Grow u9c g g' ∧ e = .returned cv ∧ Inv g' (bif v.low H.length then H1.take H.length else H1) w' ∧ u' = u63 v u) hsb (fun e => ?_) _ _ w (g.ren upF) H u (Glob.refl _ _) hst h3
      · have e : ({ c₀ with mode := u } : Frame) = c₀ := by rw [← hu]
        rw [e] at this
        exact this
      · cases e with
        | normal => exact fun env a w g H m hgl hS h => hend env a w g H m hgl hS h
        | ret => exact fun env a w g H m hgl hS h => hend env a w g H m hgl hS h
        | exit id => exact fun env a w g H m hgl hS h => (u01 (H := H) h).elim
end Go.Proofs.YthnmienjiangkaaGreatDoor.Pi
namespace Go.Proofs.YthnmienjiangkaaGreatDoor.Pi
variable {P : Program} {X : ExtT} {H : Heap}
def XSound (P : Program) (X : ExtT) : Prop :=
  ∀ f m, X f = some m → ∀ args H out, m args H = some out → u7u P f = true ∧ ∀ g w cargs, Inv g H w → ArgsOk g args cargs → Calls P f cargs w (u7e g w out)
theorem uty (hX : XSound P X) (n : Nat) : CSound P (sem P X n).C ∧ up6 P (sem P X n).CD := by
  induction n using Nat.strongRecOn with
  | _ n ih =>
    cases n with
    | zero => exact ⟨fun f args H out h => (u01 (H := H) h).elim, fun rv f args H out h => (u01 (H := H) h).elim⟩
    | succ n =>
      have hn := ih n (Nat.lt_succ_self n)
      refine ⟨fun f args H out h => ?_, fun rv f args H out h => uno hn.1 h⟩
      have h : (match X f with | some m => m args | none => fnDen P (sem P X n).C (sem P X n).CD (sem P X n).L f args) H = some out := h
      cases hf : X f with
      | some m => rw [hf] at h; exact hX f m hf args H out h
      | none =>
        rw [hf] at h
        exact up5 hn.1 hn.2 (fun fn => utp n (fun m hm => (ih m (by omega)).1) _ _ _ (fun m hm r f a => uww m r f a (by omega)) n (Nat.le_refl n)) h
theorem uob (hX : XSound P X) : CSound P (callW P X) := by
  intro f args H out h
  obtain ⟨n, hn⟩ := ((uhw P X f args).lim H out).mp h
  exact (uty hX n).1 f args H out hn
theorem noX : XSound P (fun _ => none) := fun f m h => by cases h
end Go.Proofs.YthnmienjiangkaaGreatDoor.Pi
namespace Go.Proofs.YthnmienjiangkaaGreatDoor.Pi
noncomputable def kAt (c : Ctx) (L : LoopT) : List Nat → List Tmp → Code → K → List Tmp × Code × K
  | [], af, co, k => (af, co, k)
  | 0 :: p, af, .seq a b, k => kAt c L p ((rw b).1 ++ af) a fun
    | .normal, env' => bif c.rc.isNone && joinB a then L af b (keep ((rw b).1 ++ af) env') k else den c L af b env' k
    | e, env' => k e env'
  | _ :: p, af, .seq a b, k => kAt c L p af b k
  | 0 :: p, af, .cond _ a b, k => kAt c L p af a k
  | _ :: p, af, .cond _ a b, k => kAt c L p af b k
  | _ :: p, af, .block id b, k => kAt c L p af b fun
    | .exit i, env' => bif i == id then k .normal env' else k (.exit i) env'
    | e, env' => k e env'
  | _ :: p, af, .loop b, k => kAt c L p (alive af b) b fun
    | .normal, env' => L af (.loop b) (keep (alive af b) env') k
    | e, env' => k e env'
  | _, af, co, k => (af, co, k)
section
variable (P : Program) (X : ExtT)
noncomputable def kOf (f : FuncId) (p : List Nat) : List Tmp × Code × K :=
  match P.funcs[f]? with
  | some fn => match fn.body with
    | some b => kAt (ctxW P X none (protOf fn) (resM P fn)) (loopW P X none (protOf fn) (resM P fn)) p (ueb fn) b fun
      | .exit _, _ => M.fail
      | _, env => resM P fn env
    | none => ([], .skip, fun _ _ => M.fail)
  | none => ([], .skip, fun _ _ => M.fail)
noncomputable def ctxOf (f : FuncId) : Ctx :=
  match P.funcs[f]? with
  | some fn => ctxW P X none (protOf fn) (resM P fn)
  | none => ctxW P X none [] (fun _ => M.fail)
noncomputable def atP (f : FuncId) (p : List Nat) (env : Env) : M PV :=
  loopW P X none (ctxOf P X f).prot (ctxOf P X f).res (kOf P X f p).1 (kOf P X f p).2.1 env (kOf P X f p).2.2
noncomputable def stepP (f : FuncId) (p : List Nat) (env : Env) : M PV :=
  go1 (ctxW P X none (ctxOf P X f).prot (ctxOf P X f).res) (loopW P X none (ctxOf P X f).prot (ctxOf P X f).res) (kOf P X f p).1 (kOf P X f p).2.1 env (kOf P X f p).2.2
theorem u05 (f : FuncId) (p : List Nat) (env : Env) : atP P X f p env = stepP P X f p env := uy2 P X none _ _ _ _ _ _
def mkEnv : Nat → Nat → List (Nat × PV) → Env
  | 0, _, _ => []
  | n + 1, i, (j, v) :: r => bif i == j then v :: mkEnv n (i + 1) r else .undef :: mkEnv n (i + 1) ((j, v) :: r)
  | n + 1, i, [] => .undef :: mkEnv n (i + 1) []
end
end Go.Proofs.YthnmienjiangkaaGreatDoor.Pi
namespace Go.Proofs.YthnmienjiangkaaGreatDoor.Pi
theorem nrfl {γ : Sort _} {a b : γ} (h : a = b) : a = b := h
variable {α β : Type} {H : Heap} {k : IntKind} {a b n m : Int} {x y : PV} {ek : EqK}
@[simp] theorem ugo : strip (.int k n) = .int k n := nrfl rfl
@[simp] theorem uj7 {t : Bool} : strip (.bool t) = .bool t := nrfl rfl
@[simp] theorem ung {s : ByteArray} : strip (.str s) = .str s := nrfl rfl
@[simp] theorem uh5 {o z : Bool} {sz : Nat} {xs : List PV} : strip (.slice o z sz xs) = .slice false z sz xs := nrfl rfl
@[simp] theorem um8 {i o : Nat} : strip (.ptr i o) = .ptr i o := nrfl rfl
@[simp] theorem ulr {cs : List PV} : strip (.agg cs) = .agg cs := nrfl rfl
@[simp] theorem uj6 {cs : List PV} : strip (.elem cs) = .elem cs := nrfl rfl
@[simp] theorem um0 : strip .nil = .nil := nrfl rfl
@[simp] theorem uc6 : strip .niliface = .niliface := nrfl rfl
@[simp] theorem ui2 {t : TypeId} {v : PV} : strip (.iface t v) = .iface t v := nrfl rfl
@[simp] theorem ur0 {f : FuncId} {u v : List PV} : strip (.fn f u v) = .fn f u v := nrfl rfl
@[simp] theorem ugq : strip .undef = .undef := nrfl rfl
@[simp] theorem umc {vs : List PV} : strip (.tup vs) = .tup (vs.map stripC) := nrfl rfl
@[simp] theorem ueh : stripC (.int k n) = .int k n := nrfl rfl
@[simp] theorem uhk {t : Bool} : stripC (.bool t) = .bool t := nrfl rfl
@[simp] theorem uje {s : ByteArray} : stripC (.str s) = .str s := nrfl rfl
@[simp] theorem ufd {o z : Bool} {sz : Nat} {xs : List PV} : stripC (.slice o z sz xs) = .slice false z sz xs := nrfl rfl
@[simp] theorem uig {i o : Nat} : stripC (.ptr i o) = .ptr i o := nrfl rfl
@[simp] theorem ujd {cs : List PV} : stripC (.agg cs) = .agg cs := nrfl rfl
@[simp] theorem ujs : stripC .nil = .nil := nrfl rfl
@[simp] theorem uai : stripC .niliface = .niliface := nrfl rfl
@[simp] theorem uf2 {t : TypeId} {v : PV} : stripC (.iface t v) = .iface t v := nrfl rfl
@[simp] theorem umn {f : FuncId} {u v : List PV} : stripC (.fn f u v) = .fn f u v := nrfl rfl
@[simp] theorem bi_add : bi .add ek (.int k a) (.int k b) = M.pure (.int k (k.wrap (a + b))) := nrfl (by cases k <;> rfl)
@[simp] theorem bi_sub : bi .sub ek (.int k a) (.int k b) = M.pure (.int k (k.wrap (a - b))) := nrfl (by cases k <;> rfl)
@[simp] theorem bi_mul : bi .mul ek (.int k a) (.int k b) = M.pure (.int k (k.wrap (a * b))) := nrfl (by cases k <;> rfl)
@[simp] theorem bi_eql : bi .eql ek (.int k a) (.int k b) = M.pure (.bool (a == b)) := nrfl (by cases k <;> rfl)
@[simp] theorem bi_neq : bi .neq ek (.int k a) (.int k b) = M.pure (.bool (a != b)) := nrfl (by cases k <;> rfl)
@[simp] theorem bi_lss : bi .lss ek (.int k a) (.int k b) = M.pure (.bool (decide (a < b))) := nrfl (by cases k <;> rfl)
@[simp] theorem bi_leq : bi .leq ek (.int k a) (.int k b) = M.pure (.bool (decide (a ≤ b))) := nrfl (by cases k <;> rfl)
@[simp] theorem bi_gtr : bi .gtr ek (.int k a) (.int k b) = M.pure (.bool (decide (a > b))) := nrfl (by cases k <;> rfl)
@[simp] theorem bi_geq : bi .geq ek (.int k a) (.int k b) = M.pure (.bool (decide (a ≥ b))) := nrfl (by cases k <;> rfl)
@[simp] theorem ux5 {s t : ByteArray} : bi .eql ek (.str s) (.str t) = M.pure (.bool (s.toList == t.toList)) := nrfl rfl
@[simp] theorem uui {s t : ByteArray} : bi .neq ek (.str s) (.str t) = M.pure (.bool (!(s.toList == t.toList))) := nrfl rfl
@[simp] theorem utz {s t : Bool} : bi .eql .bool (.bool s) (.bool t) = M.pure (.bool (s == t)) := nrfl rfl
@[simp] theorem uw2 {s t : Bool} : bi .neq .bool (.bool s) (.bool t) = M.pure (.bool (!(s == t))) := nrfl rfl
@[simp] theorem un_not {t : Bool} : un .not (.bool t) = M.pure (.bool (!t)) := nrfl rfl
@[simp] theorem ulg {o z : Bool} {sz : Nat} {xs : List PV} : lnL (.slice o z sz xs) = M.pure (.int .i64 xs.length) := nrfl rfl
@[simp] theorem uvs {s : ByteArray} : lnS (.str s) = M.pure (.int .i64 s.size) := nrfl rfl
@[simp] theorem mx_int : mx (.int k a) (.int k b) = M.pure (.int k (if b > a then b else a)) := nrfl (by cases k <;> rfl)
@[simp] theorem mn_int : mn (.int k a) (.int k b) = M.pure (.int k (if b < a then b else a)) := nrfl (by cases k <;> rfl)
@[simp] theorem cv_int {o : Bool} {j : IntKind} : cv (.int k) o (.int j n) = M.pure (.int k (k.wrap n)) := nrfl rfl
@[simp] theorem v01i {v : PV} {r : List PV} : ex 0 (.tup (v :: r)) = M.pure v := nrfl rfl
@[simp] theorem v01g {u v : PV} {r : List PV} : ex 1 (.tup (u :: v :: r)) = M.pure v := nrfl rfl
@[simp] theorem v01h {t u v : PV} {r : List PV} : ex 2 (.tup (t :: u :: v :: r)) = M.pure v := nrfl rfl
end Go.Proofs.YthnmienjiangkaaGreatDoor.Pi
namespace Go.Proofs.YthnmienjiangkaaGreatDoor.Pi
variable {P : Program} {X : ExtT}
def gOf (im : Nat → Nat → Option Value) : G := ⟨[], im, fun _ => none⟩
theorem uzp {im : Nat → Nat → Option Value} {w : World} (him : ∀ b o v, im b o = some v → w.cell? ⟨b, o, none⟩ = some v) (hg : GlobOk im) : Inv (gOf im) [] w :=
  ⟨rfl, fun i j b h => by simp [gOf] at h, him, fun b L s h => by simp [gOf] at h, fun id b y h => by simp [gOf] at h, hg⟩
theorem walk_law (hX : XSound P X) {f : FuncId} {args : List PV} {H' : Heap} (h : callW P X f args [] = some (.ok (.bool true) H')) {im : Nat → Nat → Option Value} {w : World} {cargs : Array Value}
    (him : ∀ b o v, im b o = some v → w.cell? ⟨b, o, none⟩ = some v) (ha : ArgsOk (gOf im) args cargs) (hg : GlobOk im) : Calls P f cargs w fun e w' => e = .returned (.bool true) ∧ RowKit.Below w.heap.size w w' := by
  obtain ⟨_, hs⟩ := uob hX f args [] _ h
  refine (hs (gOf im) w cargs (uzp him hg) ha).mono ?_
  rintro e w' ⟨g', hgl, hgr, cv, rfl, hi, hr⟩
  have hv : cv = .bool true := by
    cases hr with
    | one hr => cases hr with
      | pure hr => cases hr with
        | flat hr => cases hr; rfl
  subst hv
  exact ⟨rfl, hgl.os, hgl.tape, hgl.output, hgl.size, fun k hk => (hgl.old k hk rfl (by simp [gOf])).2.2⟩
end Go.Proofs.YthnmienjiangkaaGreatDoor.Pi
namespace Go.Proofs.YthnmienjiangkaaGreatDoor.Pi
variable {α β : Type} {H : Heap} {k j : IntKind} {a b n m : Int} {x y : PV} {ek : EqK}
def resT (v : PV) (m : M PV) : M PV := bif isTup v then M.fail else m
def hget (H : Heap) (id : Nat) : Option Box := H[id]?
def hset (H : Heap) (id : Nat) (b : Box) : Heap := H.set id b
def hadd (H : Heap) (L : List Box) : Heap := H ++ L
def hcut (H : Heap) (n : Nat) : Heap := H.take n
abbrev hlen (H : Heap) : Nat := List.length H
def run (m : M α) (H : Heap) : Option (Out α) := m H
def bindR (r : Option (Out α)) (f : α → M β) : Option (Out β) :=
  match r with
  | none => none
  | some (.ok v H) => run (f v) H
  | some (.pan v H) => some (.pan v H)
def truncR (H : Heap) (r : Option (Out PV)) : Option (Out PV) :=
  match r with
  | none => none
  | some (.ok v H') => some (.ok v (bif v.low H.length then hcut H' H.length else H'))
  | some (.pan v H') => bif v.low H.length then some (.pan v (hcut H' H.length)) else none
noncomputable def nbR (H : Heap) (r : Option (Out α)) (f : α → M β) : Option (Out β) := nb (fun _ => r) f H
@[congr] theorem v00e {r r' : Option (Out α)} {f : α → M β} (h : r = r') : bindR r f = bindR r' f := by rw [h]
@[congr] theorem v01e {r r' : Option (Out α)} {f : α → M β} (h : r = r') : nbR H r f = nbR H r' f := by rw [h]
@[congr] theorem v00y {c c' : PV} {x y : M α} (h : c = c') : condM c x y = condM c' x y := by rw [h]
@[congr] theorem uzk {c c' : Bool} {x : M α} (h : c = c') : guardM c x = guardM c' x := by rw [h]
@[congr] theorem v01d {c c' : PV} {x : M PV} (h : c = c') : resT c x = resT c' x := by rw [h]
theorem run_bind {m : M α} {f : α → M β} : run (M.bind m f) H = bindR (run m H) f := nrfl rfl
theorem us6 {f : α → M β} {v : α} {H : Heap} : bindR (some (.ok v H)) f = run (f v) H := nrfl rfl
theorem uja {f : α → M β} : bindR none f = none := nrfl rfl
theorem unr {f : α → M β} {v : PV} {H : Heap} : bindR (some (.pan v H)) f = some (.pan v H) := nrfl rfl
theorem ulx {c : Prop} [Decidable c] {r r' : Option (Out α)} {f : α → M β} : bindR (if c then r else r') f = if c then bindR r f else bindR r' f := by split <;> rfl
theorem run_nb {m : M α} {f : α → M β} : run (nb m f) H = nbR H (run m H) f := nrfl rfl
theorem nbR_ok {f : α → M β} {v : α} : nbR H (some (.ok v H)) f = run (f v) H := by simp [nbR, nb, run]
theorem uvd {c : Prop} [Decidable c] {r r' : Option (Out α)} {f : α → M β} : nbR H (if c then r else r') f = if c then nbR H r f else nbR H r' f := by split <;> rfl
theorem uh4 {m : M PV} : run (trunc m) H = truncR H (run m H) := nrfl rfl
theorem uis {c : Prop} [Decidable c] {r r' : Option (Out PV)} : truncR H (if c then r else r') = if c then truncR H r else truncR H r' := by split <;> rfl
theorem ui6 : truncR H none = none := nrfl rfl
theorem ulc {v : PV} {H' : Heap} : truncR H (some (.ok v H')) = some (.ok v (if v.low H.length = true then hcut H' H.length else H')) := by
  show some (Out.ok v (bif v.low H.length then hcut H' H.length else H')) = _
  cases v.low H.length <;> rfl
theorem ueu {v : PV} {H' : Heap} : truncR H (some (.pan v H')) = if v.low H.length = true then some (.pan v (hcut H' H.length)) else none := by
  show (bif v.low H.length then some (Out.pan v (hcut H' H.length)) else none) = _
  cases v.low H.length <;> rfl
theorem ulh {c : Bool} {m : M α} : run (guardM c m) H = if c = true then run m H else none := by cases c <;> rfl
theorem uqo {v : PV} {m : M PV} : run (resT v m) H = if isTup v = true then none else run m H := by unfold resT; cases isTup v <;> rfl
theorem us8 {c : Bool} {x y : M α} : run (condM (.bool c) x y) H = if c = true then run x H else run y H := by cases c <;> rfl
theorem uwr {c : Bool} {m : M PV} : run (gd (.bool c) true m) H = if c = true then run m H else some (.ok (.tup []) H) := by cases c <;> rfl
theorem ux2 {c : Bool} {m : M PV} : run (gd (.bool c) false m) H = if c = true then some (.ok (.tup []) H) else run m H := by cases c <;> rfl
theorem uir : strip (.tup []) = .tup [] := nrfl rfl
theorem uvp {b : Bool} {m : M PV} : run (gd (.tup []) b m) H = some (.ok (.tup []) H) := nrfl rfl
theorem uq9 {c : Bool} : run (pick (.bool c) x y) H = if c = true then some (.ok (strip x) H) else some (.ok (strip y) H) := by cases c <;> rfl
theorem run_pure {v : α} : run (M.pure v) H = some (.ok v H) := nrfl rfl
theorem uws {v : PV} : run (M.pan v : M α) H = some (.pan v H) := nrfl rfl
theorem ups : run (M.fail : M α) H = none := nrfl rfl
theorem run_al {cs : List PV} : run (al cs) H = if cs.all isCell = true then some (.ok (.ptr H.length 0) (hadd H [.cells cs])) else none := by unfold run al; cases cs.all isCell <;> rfl
theorem run_bx {n : Nat} {v : PV} : run (bx n v) H = if (v.cells.map stripC).length = n ∧ lowL (H.length + 1) (v.cells.map stripC) = true ∧ v.cells.all isCell = true then some (.ok (.ptr H.length 0) (hadd H [.cells (v.cells.map stripC)])) else none := by
  unfold run bx
  cases h1 : ((v.cells.map stripC).length == n) <;> cases h2 : lowL (H.length + 1) (v.cells.map stripC) <;> cases h3 : v.cells.all isCell <;> simp_all [hadd]
theorem uc5 (a b : Nat) : (a == b) = decide (a = b) := by rw [Bool.eq_iff_iff]; simp
def ldB (n : Option Nat) (mv : Bool) (id o : Nat) (H : Heap) : Option Box → Option (Out PV)
  | some (.cells cs) => match n with
      | none => match cs[o]? with
        | some v => bif mv then some (.ok v (hset H id (.cells (cs.set o (stripC v))))) else some (.ok (stripC v) H)
        | none => none
      | some n => bif decide (o + n ≤ cs.length) then some (.ok (.agg (((cs.drop o).take n).map stripC)) H) else none
  | _ => none
theorem run_ld {n : Option Nat} {mv : Bool} {id o : Nat} : run (ld n mv (.ptr id o)) H = ldB n mv id o H (hget H id) := by
  unfold run ld ldB
  rfl
def stB (n : Nat) (mv : Bool) (id o : Nat) (v : PV) (H : Heap) : Option Box → Option (Out PV)
  | some (.cells cs) => bif v.cells.length == n && (decide (o + n ≤ cs.length) && (lowL (id + 1) v.cells && v.cells.all isCell)) then
        some (.ok .undef (hset H id (.cells (fillAt o (bif mv then v.cells else v.cells.map stripC) cs))))
      else none
  | _ => none
theorem run_st {n : Nat} {mv : Bool} {id o : Nat} {v : PV} : run (st n mv (.ptr id o) v) H = stB n mv id o v H (hget H id) := by
  unfold run st stB
  rfl
theorem uqy {n : Nat} {mv : Bool} {id o : Nat} {cs : List PV} : ldB (some n) mv id o H (some (.cells cs)) = if o + n ≤ cs.length then some (.ok (.agg (((cs.drop o).take n).map stripC)) H) else none := by
  show (bif decide (o + n ≤ cs.length) then some (Out.ok (PV.agg (((cs.drop o).take n).map stripC)) H) else none) = _
  by_cases h : o + n ≤ cs.length <;> simp [h]
def nth : List α → Nat → Option α
  | [], _ => none
  | v :: _, 0 => some v
  | _ :: r, n + 1 => nth r n
theorem upu {v : α} {r : List α} : nth (v :: r) 0 = some v := nrfl rfl
theorem url {v : α} {r : List α} {n : Nat} : nth (v :: r) (n + 1) = nth r n := nrfl rfl
theorem nth_is : ∀ (l : List α) (n : Nat), l[n]? = nth l n
  | [], _ => rfl
  | _ :: _, 0 => rfl
  | _ :: r, n + 1 => nth_is r n
def ldTR (H : Heap) (id : Nat) (cs : List PV) (o : Nat) : Option PV → Option (Out PV)
  | some v => some (.ok v (hset H id (.cells (cs.set o (stripC v)))))
  | none => none
def ldFR (H : Heap) : Option PV → Option (Out PV)
  | some v => some (.ok (stripC v) H)
  | none => none
theorem ula {id : Nat} {cs : List PV} {o : Nat} {v : PV} : ldTR H id cs o (some v) = some (.ok v (hset H id (.cells (cs.set o (stripC v))))) := nrfl rfl
theorem umu {v : PV} : ldFR H (some v) = some (.ok (stripC v) H) := nrfl rfl
theorem ldB_t {id o : Nat} {cs : List PV} : ldB none true id o H (some (.cells cs)) = ldTR H id cs o (nth cs o) := by
  rw [← nth_is]; rfl
theorem ldB_f {id o : Nat} {cs : List PV} : ldB none false id o H (some (.cells cs)) = ldFR H (nth cs o) := by
  rw [← nth_is]; rfl
theorem stB_is {n : Nat} {mv : Bool} {id o : Nat} {v : PV} {cs : List PV} :
    stB n mv id o v H (some (.cells cs)) = if v.cells.length = n ∧ o + n ≤ cs.length ∧ lowL (id + 1) v.cells = true ∧ v.cells.all isCell = true then some (.ok .undef (hset H id (.cells (fillAt o (if mv = true then v.cells else v.cells.map stripC) cs)))) else none := by
  show (bif v.cells.length == n && (decide (o + n ≤ cs.length) && (lowL (id + 1) v.cells && v.cells.all isCell)) then some (Out.ok PV.undef (hset H id (.cells (fillAt o (bif mv then v.cells else v.cells.map stripC) cs)))) else none) = _
  cases hb : v.cells.all isCell <;> cases hc : lowL (id + 1) v.cells <;> by_cases h1 : v.cells.length = n <;> by_cases h2 : o + n ≤ cs.length <;> cases mv <;> simp [h1, h2, uc5 (v.cells.length) n]
theorem us7 {mv : Bool} {cs : List PV} {c : PV} : run (ld none mv (.elem (c :: cs))) H = some (.ok c H) := nrfl rfl
theorem urt {mv : Bool} {n : Nat} {cs : List PV} : run (ld (some n) mv (.elem cs)) H = if n ≤ cs.length then some (.ok (.agg (cs.take n)) H) else none := by
  show (bif decide (n ≤ cs.length) then M.pure (PV.agg (cs.take n)) else M.fail) H = _
  by_cases h : n ≤ cs.length <;> simp [h, M.pure, M.fail]
theorem ual {L : List Box} (k : Nat) : hget (hadd H L) (H.length + k) = nth L k := by unfold hget hadd; rw [List.getElem?_append_right (Nat.le_add_right _ _), Nat.add_sub_cancel_left, nth_is]
theorem udo {L : List Box} : hget (hadd H L) H.length = nth L 0 := ual 0
theorem u5a {L : List Box} {i : Nat} (h : i < H.length) : hget (hadd H L) i = hget H i := List.getElem?_append_left h
theorem ue5 {L : List Box} {x : Box} (k : Nat) : hset (hadd H L) (H.length + k) x = hadd H (L.set k x) := by unfold hset hadd; rw [List.set_append_right _ _ (Nat.le_add_right _ _), Nat.add_sub_cancel_left]
theorem uqn {L : List Box} {x : Box} : hset (hadd H L) H.length x = hadd H (L.set 0 x) := ue5 0
theorem u9y {L : List Box} {i : Nat} {x : Box} (h : i < H.length) : hset (hadd H L) i x = hadd (hset H i x) L := List.set_append_left _ _ h
theorem u4z {i : Nat} {x : Box} (h : i < H.length) : hget (hset H i x) i = some x := by unfold hget hset; rw [List.getElem?_set_self h]
theorem uj9 {i k : Nat} {x : Box} (h : i ≠ k) : hget (hset H i x) k = hget H k := List.getElem?_set_ne h
theorem set_set {i : Nat} {x y : Box} : hset (hset H i x) i y = hset H i y := List.set_set _
theorem u9t {L K : List Box} : hadd (hadd H L) K = hadd H (L ++ K) := List.append_assoc _ _ _
theorem upl {A L : List Box} {n : Nat} (h : n = A.length) : hcut (hadd A L) n = A := by subst h; simp [hcut, hadd]
theorem uot {A : List Box} {n : Nat} (h : n = A.length) : hcut A n = A := by subst h; simp [hcut]
theorem cut0 : hcut H H.length = H := uot rfl
theorem cut1 {i : Nat} {x : Box} : hcut (hset H i x) H.length = hset H i x := uot (by unfold hset; simp)
theorem cut2 {i j : Nat} {x y : Box} : hcut (hset (hset H i x) j y) H.length = hset (hset H i x) j y := uot (by unfold hset; simp)
theorem cutA0 {L : List Box} : hcut (hadd H L) H.length = H := upl rfl
theorem cutA1 {L : List Box} {i : Nat} {x : Box} : hcut (hadd (hset H i x) L) H.length = hset H i x := upl (by unfold hset; simp)
theorem cutA2 {L : List Box} {i j : Nat} {x y : Box} : hcut (hadd (hset (hset H i x) j y) L) H.length = hset (hset H i x) j y := upl (by unfold hset; simp)
theorem u8f {L : List Box} : List.length (hadd H L) = H.length + L.length := List.length_append
theorem u71 {i : Nat} {x : Box} : List.length (hset H i x) = H.length := List.length_set
theorem udp {L : List Box} {i : Nat} {y : Box} (k : Nat) : hget (hadd (hset H i y) L) (H.length + k) = nth L k := by
  have := ual (H := hset H i y) (L := L) k
  rwa [u71] at this
theorem udq {L : List Box} {i : Nat} {y : Box} : hget (hadd (hset H i y) L) H.length = nth L 0 := udp 0
theorem ufy {L : List Box} {i : Nat} {x y : Box} (k : Nat) : hset (hadd (hset H i y) L) (H.length + k) x = hadd (hset H i y) (L.set k x) := by
  have := ue5 (H := hset H i y) (L := L) (x := x) k
  rwa [u71] at this
theorem ugr {L : List Box} {i : Nat} {x y : Box} : hset (hadd (hset H i y) L) H.length x = hadd (hset H i y) (L.set 0 x) := ufy 0
theorem ubm {L : List Box} {i j : Nat} {y : Box} (h : i < H.length) : hget (hadd (hset H j y) L) i = hget (hset H j y) i := u5a (by rw [u71]; exact h)
theorem u7v {L : List Box} {i j : Nat} {x y : Box} (h : i < H.length) : hset (hadd (hset H j y) L) i x = hadd (hset (hset H j y) i x) L := u9y (by rw [u71]; exact h)
theorem get_lt {i : Nat} {x : Box} (h : hget H i = some x) : i < H.length := (List.getElem?_eq_some_iff.mp h).1
theorem u1g {i : Nat} {x : Box} (h : hget H i = some x) : hset H i x = H := by
  obtain ⟨h1, h2⟩ := List.getElem?_eq_some_iff.mp h
  unfold hset; subst h2; exact List.set_getElem_self h1
theorem w_i64 (h : -9223372036854775808 ≤ n ∧ n ≤ 9223372036854775807) : IntKind.i64.wrap n = n := by rw [IntKind.wrap_i64]; omega
theorem w_u64 (h : 0 ≤ n ∧ n ≤ 18446744073709551615) : IntKind.u64.wrap n = n := by simp only [IntKind.wrap, IntKind.signed, IntKind.bits]; simp; omega
theorem w_u8 (h : 0 ≤ n ∧ n ≤ 255) : IntKind.u8.wrap n = n := by rw [IntKind.wrap_u8]; omega
theorem w_u32 (h : 0 ≤ n ∧ n ≤ 4294967295) : IntKind.u32.wrap n = n := by rw [IntKind.wrap_u32]; omega
theorem w_i32 (h : -2147483648 ≤ n ∧ n ≤ 2147483647) : IntKind.i32.wrap n = n := by rw [IntKind.wrap_i32]; omega
theorem uap (h : 0 ≤ b) : bi .shl ek (.int k a) (.int j b) = M.pure (.int k (k.wrap (a * 2 ^ shiftN k b))) := by
  have : ¬ b < 0 := by omega
  simp [bi, this]
theorem ucz (h : 0 ≤ b) : bi .shr ek (.int k a) (.int j b) = M.pure (.int k (a.fdiv (2 ^ shiftN k b))) := by
  have : ¬ b < 0 := by omega
  simp [bi, this]
theorem uvv (h : b ≠ 0) : bi .quo ek (.int k a) (.int k b) = M.pure (.int k (k.wrap (a.tdiv b))) := by
  have h' : (b == 0) = false := by simpa using h
  cases k <;> simp [bi, intOp, h']
theorem uub (h : b ≠ 0) : bi .rem ek (.int k a) (.int k b) = M.pure (.int k (a.tmod b)) := by
  have h' : (b == 0) = false := by simpa using h
  cases k <;> simp [bi, intOp, h']
theorem ua0 : bi .and ek (.int k a) (.int k b) = M.pure (.int k (k.wrap (BitVec.ofInt k.bits a &&& BitVec.ofInt k.bits b).toNat)) := by cases k <;> rfl
theorem run_or : bi .or ek (.int k a) (.int k b) = M.pure (.int k (k.wrap (BitVec.ofInt k.bits a ||| BitVec.ofInt k.bits b).toNat)) := by cases k <;> rfl
def iaR (H : Heap) : Option PV → Option (Out PV)
  | some x => some (.ok (.elem x.cells) H)
  | none => none
theorem uqz {x : PV} : iaR H (some x) = some (.ok (.elem x.cells) H) := nrfl rfl
theorem uki {o z : Bool} {sz : Nat} {xs : List PV} (h0 : 0 ≤ n) : run (iaS sz (.slice o z sz xs) (.int k n)) H = iaR H xs[n.toNat]? := by
  unfold iaS iaR run
  have h' : decide (0 ≤ n) = true := by simpa using h0
  simp only [h', beq_self_eq_true, Bool.and_self, cond_true, u4r, M.fail, M.pure]
  split <;> rename_i h <;> simp only [h] <;> rfl
theorem run_fa {off id o : Nat} : fa off (.ptr id o) = M.pure (.ptr id (o + off)) := nrfl rfl
theorem uvg {off : Nat} {cs : List PV} : fa off (.elem cs) = M.pure (.elem (cs.drop off)) := nrfl rfl
theorem u6s {P : Program} {C : CallT} {f : FuncId} {u v args : List PV} : callV P C (.fn f u v) args = C f (u ++ args ++ v) := nrfl rfl
theorem nc_ptr {P : Program} {i o : Nat} : nc P (.ptr i o) = M.pure (.ptr i o) := nrfl rfl
theorem uwu {P : Program} {cs : List PV} : nc P (.elem cs) = M.pure (.elem cs) := nrfl rfl
theorem nc_nil {P : Program} : nc P .nil = M.pan (nilDeref P) := nrfl rfl
theorem run_mi {t : TypeId} {v : PV} : run (mi t v) H = if isVal v = true then some (.ok (.iface t (stripC v)) H) else none := by
  unfold run mi
  cases isVal v <;> rfl
theorem run_pn {t : TypeId} {v : PV} : pn (.iface t v) = M.pan (.iface t v) := nrfl rfl
theorem uwi {o : Bool} : cv (.int k) o (.int j n) = M.pure (.int k (k.wrap n)) := nrfl rfl
theorem uw4 {v : PV} {r : List PV} : ex 0 (.tup (v :: r)) = M.pure v := nrfl rfl
theorem uwp {u v : PV} {r : List PV} : ex 1 (.tup (u :: v :: r)) = M.pure v := nrfl rfl
theorem uve {u v x : PV} {r : List PV} : ex 2 (.tup (u :: v :: x :: r)) = M.pure x := nrfl rfl
theorem urv {v : PV} {r : List PV} : tupDrop 0 (.tup (v :: r)) = .tup (stripC v :: r) := nrfl rfl
theorem uqu {u v : PV} {r : List PV} : tupDrop 1 (.tup (u :: v :: r)) = .tup (u :: stripC v :: r) := nrfl rfl
theorem uqk {u v x : PV} {r : List PV} : tupDrop 2 (.tup (u :: v :: x :: r)) = .tup (u :: v :: stripC x :: r) := nrfl rfl
section
variable {c d : Bool} {s : ByteArray} {i o : Nat} {cs ds : List PV} {N : Nat}
theorem ui4 : isTup (.int k n) = false := nrfl rfl
theorem uiq : isCell (.int k n) = true := nrfl rfl
theorem unu : isVal (.int k n) = true := nrfl rfl
theorem un4 : isPtr (.int k n) = false := nrfl rfl
theorem umv : PV.cells (.int k n) = [(.int k n)] := nrfl rfl
theorem u7o : PV.low N (.int k n) = true := by simp only [PV.low]
theorem uiy : isTup (.bool c) = false := nrfl rfl
theorem ugc : isCell (.bool c) = true := nrfl rfl
theorem ujk : isVal (.bool c) = true := nrfl rfl
theorem ujo : isPtr (.bool c) = false := nrfl rfl
theorem uiz : PV.cells (.bool c) = [(.bool c)] := nrfl rfl
theorem ubq : PV.low N (.bool c) = true := by simp only [PV.low]
theorem uls : isTup (.str s) = false := nrfl rfl
theorem ujv : isCell (.str s) = true := nrfl rfl
theorem umz : isVal (.str s) = true := nrfl rfl
theorem ulz : isPtr (.str s) = false := nrfl rfl
theorem ul8 : PV.cells (.str s) = [(.str s)] := nrfl rfl
theorem uoh : PV.low N (.str s) = true := by simp only [PV.low]
theorem unx : isTup .nil = false := nrfl rfl
theorem ujq : isCell .nil = true := nrfl rfl
theorem ult : isVal .nil = true := nrfl rfl
theorem unf : isPtr .nil = false := nrfl rfl
theorem umx : PV.cells .nil = [.nil] := nrfl rfl
theorem utv : PV.low N .nil = true := by simp only [PV.low]
theorem um7 : isTup (.ptr i o) = false := nrfl rfl
theorem uio : isCell (.ptr i o) = true := nrfl rfl
theorem ulq : isVal (.ptr i o) = true := nrfl rfl
theorem umf : isPtr (.ptr i o) = true := nrfl rfl
theorem unz : PV.cells (.ptr i o) = [(.ptr i o)] := nrfl rfl
theorem uuf : PV.low N (.ptr i o) = decide (i < N) := by simp only [PV.low]
theorem uii : isTup (.elem cs) = false := nrfl rfl
theorem ui7 : isCell (.elem cs) = true := nrfl rfl
theorem uik : isVal (.elem cs) = true := nrfl rfl
theorem uju : isPtr (.elem cs) = false := nrfl rfl
theorem ujp : PV.cells (.elem cs) = [(.elem cs)] := nrfl rfl
theorem uqe : PV.low N (.elem cs) = true := by simp only [PV.low]
theorem ugi : isTup (.slice c d i cs) = false := nrfl rfl
theorem ufe : isCell (.slice c d i cs) = true := nrfl rfl
theorem uia : isVal (.slice c d i cs) = true := nrfl rfl
theorem uhb : isPtr (.slice c d i cs) = false := nrfl rfl
theorem ui1 : PV.cells (.slice c d i cs) = [(.slice c d i cs)] := nrfl rfl
theorem ub4 : PV.low N (.slice c d i cs) = true := by simp only [PV.low]
theorem us4 : isTup (.fn i cs ds) = false := nrfl rfl
theorem umt : isCell (.fn i cs ds) = true := nrfl rfl
theorem us3 : isVal (.fn i cs ds) = true := nrfl rfl
theorem ur2 : isPtr (.fn i cs ds) = false := nrfl rfl
theorem uq7 : PV.cells (.fn i cs ds) = [(.fn i cs ds)] := nrfl rfl
theorem low_fn : PV.low N (.fn i cs ds) = (lowL N cs && lowL N ds) := by simp only [PV.low]
theorem ugb : isTup .nilfn = false := nrfl rfl
theorem uf8 : isCell .nilfn = true := nrfl rfl
theorem ui8 : isVal .nilfn = true := nrfl rfl
theorem ugs : isPtr .nilfn = false := nrfl rfl
theorem ui5 : PV.cells .nilfn = [.nilfn] := nrfl rfl
theorem unl : PV.low N .nilfn = true := by simp only [PV.low]
theorem ugl : isTup (.iface i x) = false := nrfl rfl
theorem uf5 : isCell (.iface i x) = true := nrfl rfl
theorem uhc : isVal (.iface i x) = true := nrfl rfl
theorem uhj : isPtr (.iface i x) = false := nrfl rfl
theorem ugm : PV.cells (.iface i x) = [(.iface i x)] := nrfl rfl
theorem udk : PV.low N (.iface i x) = x.low N := by simp only [PV.low]
theorem uc1 : isTup .niliface = false := nrfl rfl
theorem uav : isCell .niliface = true := nrfl rfl
theorem ucc : isVal .niliface = true := nrfl rfl
theorem uc4 : isPtr .niliface = false := nrfl rfl
theorem uc3 : PV.cells .niliface = [.niliface] := nrfl rfl
theorem uf9 : PV.low N .niliface = true := by simp only [PV.low]
theorem umr : isTup (.agg cs) = false := nrfl rfl
theorem uji : isCell (.agg cs) = false := nrfl rfl
theorem un6 : isVal (.agg cs) = true := nrfl rfl
theorem unh : isPtr (.agg cs) = false := nrfl rfl
theorem umg : PV.cells (.agg cs) = cs := nrfl rfl
theorem uam : PV.low N (.agg cs) = lowL N cs := by simp only [PV.low]
theorem unj : isTup (.tup cs) = true := nrfl rfl
theorem uin : isCell (.tup cs) = false := nrfl rfl
theorem ulv : isVal (.tup cs) = false := nrfl rfl
theorem unp : isPtr (.tup cs) = false := nrfl rfl
theorem un8 : PV.cells (.tup cs) = [(.tup cs)] := nrfl rfl
theorem ugu : PV.low N (.tup cs) = lowL N cs := by simp only [PV.low]
theorem ugp : isTup .undef = false := nrfl rfl
theorem ufa : isCell .undef = false := nrfl rfl
theorem uha : isVal .undef = false := nrfl rfl
theorem ugx : isPtr .undef = false := nrfl rfl
theorem uhp : PV.cells .undef = [.undef] := nrfl rfl
theorem ulm : PV.low N .undef = true := by simp only [PV.low]
end
theorem u6u {n : Nat} : lowL n [] = true := by simp only [lowL]
theorem u5b {n : Nat} {v : PV} {r : List PV} : lowL n (v :: r) = (v.low n && lowL n r) := by simp only [lowL]
def bdR (H : Heap) : Option (List PV) → Option (Out PV)
  | some cs => some (.ok (.agg cs) H)
  | none => none
theorem uqp {cs : List PV} : bdR H (some cs) = some (.ok (.agg cs) H) := nrfl rfl
theorem run_bd {zero : List PV} {parts : List (Nat × Nat × PV)} : run (bd zero parts) H = bdR H (u6x parts zero) := by
  unfold run bd bdR
  cases u6x parts zero <;> rfl
theorem uh6 {cs : List PV} : u6x [] cs = some cs := nrfl rfl
theorem uex {off size : Nat} {v : PV} {r : List (Nat × Nat × PV)} {cs : List PV} : u6x ((off, size, v) :: r) cs = if v.cells.length = size ∧ off + size ≤ cs.length ∧ v.cells.all isCell = true then u6x r (fillAt off (v.cells.map stripC) cs) else none := by
  show (bif v.cells.length == size && (decide (off + size ≤ cs.length) && v.cells.all isCell) then u6x r (fillAt off (v.cells.map stripC) cs) else none) = _
  cases hb : v.cells.all isCell <;> by_cases h1 : v.cells.length = size <;> by_cases h2 : off + size ≤ cs.length <;> simp [h1, h2, hb, uc5 (v.cells.length) size]
theorem ulf {off : Nat} {vs cs : List PV} : fillAt off vs cs = cs.take off ++ vs ++ cs.drop (off + vs.length) := nrfl rfl
def bsR (own : Bool) (a : Option Nat) (vs : List PV) (H : Heap) : Option (Out PV) := if vs.all (u2g a) = true then some (.ok (.slice own false (a.getD 1) vs) H) else none
theorem run_bs {own : Bool} {a : Option Nat} {vs : List PV} : run (bs own a vs) H = bsR own a (vs.map stripC) H := by
  unfold run bs bsR
  cases ((vs.map stripC).all (u2g a)) <;> rfl
def noPanR : Option (Out PV) → Option (Out PV)
  | some (.ok v H) => some (.ok v H)
  | _ => none
theorem uga {m : M PV} : run (noPan m) H = noPanR (run m H) := by
  unfold run noPan noPanR
  cases m H with
  | none => rfl
  | some q => cases q <;> rfl
theorem ulk {v : PV} {H : Heap} : noPanR (some (.ok v H)) = some (.ok v H) := nrfl rfl
theorem ujt {v : PV} {H : Heap} : noPanR (some (.pan v H)) = none := nrfl rfl
theorem ugv : noPanR none = none := nrfl rfl
theorem uij {c : Prop} [Decidable c] {r r' : Option (Out PV)} : noPanR (if c then r else r') = if c then noPanR r else noPanR r' := by split <;> rfl
noncomputable def chkR (r r' : Option (Out α)) (x : M β) (H : Heap) : Option (Out β) := run (chk (fun _ => r) (fun _ => r') x) H
@[congr] theorem v01b {r r' s s' : Option (Out α)} {x : M β} (h : r = s) (h' : r' = s') : chkR r r' x H = chkR s s' x H := by rw [h, h']
theorem utu {m m' : M α} {x : M β} : run (chk m m' x) H = chkR (run m H) (run m' H) x H := nrfl rfl
theorem up7 {a : α} {K : Heap} {x : M β} : chkR (some (.ok a K)) (some (.ok a K)) x H = run x H := by
  simp [chkR, run, chk]
theorem uvq {i o : Nat} : tld (.ptr i o) = .ld i := nrfl rfl
theorem uuz {i o : Nat} : tst (.ptr i o) = .st i := nrfl rfl
theorem uqt {cs : List PV} : tld (.elem cs) = .no := nrfl rfl
theorem urh {x : Touch} : clash .no x = false := nrfl rfl
theorem una {y : Touch} : clash y .no = false := by cases y <;> rfl
theorem uhz {i j : Nat} : clash (.ld i) (.ld j) = false := nrfl rfl
theorem ui9 {i j : Nat} : clash (.ld j) (.st i) = (i == j) := nrfl rfl
theorem uhn {i j : Nat} : clash (.st j) (.ld i) = (i == j) := nrfl rfl
theorem uhl {i j : Nat} : clash (.st j) (.st i) = (i == j) := nrfl rfl
theorem uey {i : Nat} : clash .any (.ld i) = false := nrfl rfl
theorem uf6 {i : Nat} : clash (.ld i) .any = false := nrfl rfl
theorem udv : clash .any .any = false := nrfl rfl
def defR (CD : Option PV → CallT) (f : FuncId) (args : List PV) (res : M PV) : Option (Out PV) → Option (Out PV)
  | none => none
  | some (.ok _ H) => bindR (run (CD none f args) H) (fun _ => res)
  | some (.pan v H) => bindR (run (CD (some v) f args) H) (fun r => match r with | .tup [] => res | _ => M.fail)
theorem um1 {CD : Option PV → CallT} {f : FuncId} {u v args : List PV} {rest res : M PV} : run (deferM CD (.fn f u v) args rest res) H = defR CD f (u ++ args ++ v) res (run rest H) := by
  unfold run deferM defR
  dsimp only
  cases rest H with
  | none => rfl
  | some q => cases q <;> rfl
@[congr] theorem v01c {CD : Option PV → CallT} {f : FuncId} {args : List PV} {res : M PV} {r r' : Option (Out PV)} (h : r = r') : defR CD f args res r = defR CD f args res r' := by rw [h]
theorem unk {CD : Option PV → CallT} {f : FuncId} {args : List PV} {res : M PV} : defR CD f args res none = none := nrfl rfl
theorem uts {CD : Option PV → CallT} {f : FuncId} {args : List PV} {res : M PV} {v : PV} : defR CD f args res (some (.ok v H)) = bindR (run (CD none f args) H) (fun _ => res) := nrfl rfl
theorem ur9 {CD : Option PV → CallT} {f : FuncId} {args : List PV} {res : M PV} {v : PV} : defR CD f args res (some (.pan v H)) = bindR (run (CD (some v) f args) H) (fun r => match r with | .tup [] => res | _ => M.fail) := nrfl rfl
theorem uq8 {CD : Option PV → CallT} {f : FuncId} {args : List PV} {res : M PV} {c : Prop} [Decidable c] {r r' : Option (Out PV)} : defR CD f args res (if c then r else r') = if c then defR CD f args res r else defR CD f args res r' := by split <;> rfl
end Go.Proofs.YthnmienjiangkaaGreatDoor.Pi
namespace Go.Proofs.YthnmienjiangkaaGreatDoor.Pi
def byt (c : UInt8) : PV := .int .u8 c.toNat
abbrev bytes (b : List UInt8) : List PV := b.map byt
abbrev BS (z : Bool) (b : List UInt8) : PV := .slice false z 1 (bytes b)
theorem ul2 {b : List UInt8} {k : Nat} (h : k < b.length) : (bytes b)[k]? = some (byt b[k]) := by simp [bytes, h]
theorem byt_lt (c : UInt8) : c.toNat < 256 := c.toNat_lt
theorem uvj (n s x : Nat) (hn : n < 2 ^ s) : n ||| (x * 2 ^ s) = n + x * 2 ^ s := by
  rw [Nat.or_comm, Nat.mul_comm, ← Nat.two_pow_add_eq_or_of_lt hn, Nat.add_comm]
theorem bv_or {w a b : Nat} (ha : a < 2 ^ w) (hb : b < 2 ^ w) : (BitVec.ofInt w (a : Int) ||| BitVec.ofInt w (b : Int)).toNat = a ||| b := by
  rw [BitVec.toNat_or, BitVec.ofInt_natCast, BitVec.ofInt_natCast, BitVec.toNat_ofNat, BitVec.toNat_ofNat, Nat.mod_eq_of_lt ha, Nat.mod_eq_of_lt hb]
theorem bv_and {w a b : Nat} (ha : a < 2 ^ w) (hb : b < 2 ^ w) : (BitVec.ofInt w (a : Int) &&& BitVec.ofInt w (b : Int)).toNat = a &&& b := by
  rw [BitVec.toNat_and, BitVec.ofInt_natCast, BitVec.ofInt_natCast, BitVec.toNat_ofNat, BitVec.toNat_ofNat, Nat.mod_eq_of_lt ha, Nat.mod_eq_of_lt hb]
theorem and127 (a : Nat) (ha : a < 256) : IntKind.u8.wrap ((BitVec.ofInt IntKind.u8.bits (a : Int) &&& BitVec.ofInt IntKind.u8.bits 127).toNat : Int) = ((a % 128 : Nat) : Int) := by
  have e : (127 : Int) = ((127 : Nat) : Int) := rfl
  have h := bv_and (w := 8) (a := a) (b := 127) ha (by decide)
  rw [show IntKind.u8.bits = 8 from rfl, e, h, Nat.and_two_pow_sub_one_eq_mod a 7]
  exact w_u8 (by omega)
theorem ut5 {s : Nat} (h : s ≤ 64) : shiftN .u64 (s : Int) = s := by unfold shiftN; rw [Int.toNat_natCast]; exact Nat.min_eq_left h
theorem uj5 {s : Nat} (h : s ≤ 64) : shiftN .i64 (s : Int) = s := by unfold shiftN; rw [Int.toNat_natCast]; exact Nat.min_eq_left h
theorem uwn {s : Nat} (h : s ≤ 8) : shiftN .u8 (s : Int) = s := by unfold shiftN; rw [Int.toNat_natCast]; exact Nat.min_eq_left h
theorem shr_u8 (c : Nat) {s : Nat} (h : s ≤ 8) : (c : Int).fdiv (2 ^ shiftN .u8 (s : Int)) = ((c / 2 ^ s : Nat) : Int) := by
  rw [uwn h, Int.fdiv_eq_ediv_of_nonneg _ (Int.le_of_lt (Int.pow_pos (by omega)))]
  simp
theorem uks {n x s : Nat} (hs : s ≤ 63) (hn : n < 2 ^ s) (hx : x * 2 ^ s < 2 ^ 64) :
    IntKind.u64.wrap ((BitVec.ofInt IntKind.u64.bits (n : Int) ||| BitVec.ofInt IntKind.u64.bits (IntKind.u64.wrap ((x : Int) * 2 ^ shiftN .u64 (s : Int)))).toNat : Int) = ((n + x * 2 ^ s : Nat) : Int) ∧ n + x * 2 ^ s < 2 ^ 64 := by
  have e1 : ((x : Int) * 2 ^ shiftN .u64 (s : Int)) = ((x * 2 ^ s : Nat) : Int) := by rw [ut5 (by omega)]; simp
  have hle : 2 ^ s ≤ 2 ^ 63 := Nat.pow_le_pow_right (by omega) hs
  have hlt : n + x * 2 ^ s < 2 ^ 64 := by
    have e : (2 : Nat) ^ 64 = 2 ^ (64 - s) * 2 ^ s := by rw [← Nat.pow_add, Nat.sub_add_cancel (by omega)]
    rw [e] at hx ⊢
    have hx2 : x < 2 ^ (64 - s) := Nat.lt_of_mul_lt_mul_right hx
    have : (x + 1) * 2 ^ s ≤ 2 ^ (64 - s) * 2 ^ s := Nat.mul_le_mul_right _ hx2
    rw [Nat.add_mul] at this
    omega
  refine ⟨?_, hlt⟩
  rw [e1, w_u64 (n := ((x * 2 ^ s : Nat) : Int)) (by omega), show IntKind.u64.bits = 64 from rfl, bv_or (w := 64) (by omega) hx, uvj n s x hn]
  exact w_u64 (by omega)
inductive Rs (α : Type) where
  | ok (v : α) (p : Nat)
  | err (p e : Nat)
def lebU (b : List UInt8) (B e : Nat) : Nat → Nat → Nat → Nat → Rs Nat
  | 0, _, _, p => .err p 4
  | f + 1, i, n, p =>
    if p < e then
      let c := (b.getD p 0).toNat
      if B < 7 * i + 7 ∧ c / 2 ^ (B - 7 * i) ≠ 0 then .err p 4
      else if c < 128 then .ok (n + c * 2 ^ (7 * i)) (p + 1)
      else lebU b B e f (i + 1) (n + c % 128 * 2 ^ (7 * i)) (p + 1)
    else .err e 3
end Go.Proofs.YthnmienjiangkaaGreatDoor.Pi
namespace Go.Proofs.YthnmienjiangkaaGreatDoor.Pi
theorem wi (x : Int) : IntKind.i64.wrap x = (x + 9223372036854775808) % 18446744073709551616 - 9223372036854775808 := by rw [IntKind.wrap_i64]
theorem uwe (x : Int) : IntKind.i64.wrap x % 18446744073709551616 = x % 18446744073709551616 := by rw [wi]; omega
theorem upw {x y : Int} (h : x % 18446744073709551616 = y % 18446744073709551616) : IntKind.i64.wrap x = IntKind.i64.wrap y := by rw [wi, wi]; omega
theorem uj0 (a : Int) : BitVec.ofInt 64 (a % 18446744073709551616) = BitVec.ofInt 64 a := by
  apply BitVec.eq_of_toNat_eq
  rw [BitVec.toNat_ofInt, BitVec.toNat_ofInt]
  have e : ((2 ^ 64 : Nat) : Int) = 18446744073709551616 := rfl
  rw [e, Int.emod_emod_of_dvd _ (Int.dvd_refl _)]
def or64 (a b : Int) : Int := ((BitVec.ofInt 64 a ||| BitVec.ofInt 64 b).toNat : Int)
theorem ux7 (a b : Int) : or64 (a % 18446744073709551616) (b % 18446744073709551616) = or64 a b := by unfold or64; rw [uj0, uj0]
theorem pow64 {s : Nat} (h : s ≤ 64) : (18446744073709551616 : Int) = 2 ^ (64 - s) * 2 ^ s := by
  rw [← Int.pow_add, Nat.sub_add_cancel h]; rfl
theorem uhf (x : Int) {s : Nat} (h : s ≤ 64) : (x * 2 ^ s) % 18446744073709551616 = (x % 2 ^ (64 - s)) * 2 ^ s := by
  rw [pow64 h, Int.mul_comm x, Int.mul_comm (2 ^ (64 - s)), Int.mul_emod_mul_of_pos _ _ (Int.pow_pos (by omega)), Int.mul_comm]
theorem uqs {N x : Int} {s : Nat} (hs : s ≤ 63) (h0 : 0 ≤ N) (h1 : N < 2 ^ s) : IntKind.i64.wrap (or64 (IntKind.i64.wrap N) (IntKind.i64.wrap (x * 2 ^ s))) = IntKind.i64.wrap (N + x * 2 ^ s) := by
  have hq : (0 : Int) < 2 ^ s := Int.pow_pos (by omega)
  have hr : (0 : Int) < 2 ^ (64 - s) := Int.pow_pos (by omega)
  have hp := pow64 (show s ≤ 64 by omega)
  have hle : (2 : Int) ^ s ≤ 18446744073709551616 := by
    have h4 : 1 * (2 : Int) ^ s ≤ 2 ^ (64 - s) * 2 ^ s := Int.mul_le_mul_of_nonneg_right (by omega) (by omega)
    omega
  have hm0 := Int.emod_nonneg x (show (2 : Int) ^ (64 - s) ≠ 0 by omega)
  have hm1 := Int.emod_lt_of_pos x hr
  have hN : N % 18446744073709551616 = N := by omega
  obtain ⟨a, rfl⟩ := Int.eq_ofNat_of_zero_le h0
  obtain ⟨m, hm⟩ := Int.eq_ofNat_of_zero_le hm0
  have ha : a < 2 ^ s := by
    have h2 : ((a : Nat) : Int) < ((2 ^ s : Nat) : Int) := by simpa using h1
    exact Int.ofNat_lt.1 h2
  have e2 : ((m : Int) * 2 ^ s) = ((m * 2 ^ s : Nat) : Int) := by simp
  have hb : m * 2 ^ s < 2 ^ 64 := by
    have h2 : (x % 2 ^ (64 - s) + 1) * 2 ^ s ≤ 2 ^ (64 - s) * 2 ^ s := Int.mul_le_mul_of_nonneg_right (by omega) (by omega)
    rw [← hp, Int.add_mul, hm, e2] at h2
    omega
  have hj := uks (n := a) (x := m) hs ha hb
  rw [← ux7, uwe, uwe, hN, uhf x (by omega), hm, e2]
  unfold or64
  have hsz : ((2 : Nat) ^ s) ≤ 2 ^ 64 := Nat.pow_le_pow_right (by omega) (by omega)
  rw [bv_or (w := 64) (by omega) hb, uvj a s m ha]
  apply upw
  rw [Int.add_emod, uhf x (by omega), hm, e2]
  have := hj.2
  omega
def okS (h c : Nat) : Prop := c < 128 ∧ (c / 2 ^ (h - 1) = 0 ∨ c / 2 ^ (h - 1) = 2 ^ (8 - h) - 1)
instance (h c : Nat) : Decidable (okS h c) := by unfold okS; infer_instance
theorem v013 (n : Int) : IntKind.i8.wrap n = (n + 128) % 256 - 128 := by
  have h : IntKind.i8.wrap n = if 128 ≤ n % 256 then n % 256 - 256 else n % 256 := by
    simp [IntKind.wrap, IntKind.bits, IntKind.signed]
  rw [h]; split <;> omega
theorem uzu (n : Int) : IntKind.u8.wrap n = n % 256 := by
  simp [IntKind.wrap, IntKind.bits, IntKind.signed]
theorem top_ok {h : Nat} (hh : h = 1 ∨ h = 4 ∨ h = 5) {c : Nat} (c1 : c < 128) :
    ((IntKind.i8.wrap (IntKind.u8.wrap ((c : Int) * 2 ^ shiftN .u8 1))).fdiv (2 ^ shiftN .i8 (h : Int)) = 0 ∨ (IntKind.i8.wrap (IntKind.u8.wrap ((c : Int) * 2 ^ shiftN .u8 1))).fdiv (2 ^ shiftN .i8 (h : Int)) = -1) ↔ okS h c := by
  have e1 : ((c : Int) * 2 ^ shiftN .u8 1) = (c : Int) * 2 := rfl
  have e2 : shiftN .i8 (h : Int) = h := by unfold shiftN; rw [Int.toNat_natCast]; exact Nat.min_eq_left (by show h ≤ 8; omega)
  rw [v013, uzu, e1, e2, Int.fdiv_eq_ediv_of_nonneg _ (Int.le_of_lt (Int.pow_pos (by omega)))]
  unfold okS
  rcases hh with rfl | rfl | rfl
  · show ((((c * 2 : Int) % 256 + 128) % 256 - 128) / 2 ^ 1 = 0 ∨ (((c * 2 : Int) % 256 + 128) % 256 - 128) / 2 ^ 1 = -1) ↔ (c < 128 ∧ (c / 2 ^ 0 = 0 ∨ c / 2 ^ 0 = 2 ^ 7 - 1))
    omega
  · show ((((c * 2 : Int) % 256 + 128) % 256 - 128) / 2 ^ 4 = 0 ∨ (((c * 2 : Int) % 256 + 128) % 256 - 128) / 2 ^ 4 = -1) ↔ (c < 128 ∧ (c / 2 ^ 3 = 0 ∨ c / 2 ^ 3 = 2 ^ 4 - 1))
    omega
  · show ((((c * 2 : Int) % 256 + 128) % 256 - 128) / 2 ^ 5 = 0 ∨ (((c * 2 : Int) % 256 + 128) % 256 - 128) / 2 ^ 5 = -1) ↔ (c < 128 ∧ (c / 2 ^ 4 = 0 ∨ c / 2 ^ 4 = 2 ^ 3 - 1))
    omega
theorem and64 (a : Nat) (ha : a < 128) : IntKind.u8.wrap ((BitVec.ofInt IntKind.u8.bits (a : Int) &&& BitVec.ofInt IntKind.u8.bits 64).toNat : Int) = if a < 64 then 0 else 64 := by
  have e : (64 : Int) = ((64 : Nat) : Int) := rfl
  have h := bv_and (w := 8) (a := a) (b := 64) (by omega) (by decide)
  have h2 : ∀ y, y < 128 → y &&& 64 = if y < 64 then 0 else 64 := by decide +kernel
  rw [show IntKind.u8.bits = 8 from rfl, e, h, h2 a ha]
  split <;> rfl
def lastS (c s : Nat) : Int := (if c < 64 then (c : Int) else (c : Int) - 128) * 2 ^ s
def lebS (b : List UInt8) (B e : Nat) : Nat → Nat → Nat → Nat → Rs Int
  | 0, _, _, p => .err p 4
  | f + 1, i, n, p =>
    if p < e then
      let c := (b.getD p 0).toNat
      if B < 7 * i + 7 ∧ ¬ okS (B - 7 * i) c then .err p 4
      else if c < 128 then .ok (IntKind.i64.wrap (n + lastS c (7 * i))) (p + 1)
      else lebS b B e f (i + 1) (n + c % 128 * 2 ^ (7 * i)) (p + 1)
    else .err e 3
def rdS (b : List UInt8) (B e p : Nat) : Rs Int := lebS b B e 10 0 0 p
end Go.Proofs.YthnmienjiangkaaGreatDoor.Pi
namespace Go.Proofs.YthnmienjiangkaaGreatDoor.Pi
open Go.ChangeShapes Go.WideShapes
def imOf (w : World) (b o : Nat) : Option Value := w.cell? ⟨b, o, none⟩
theorem imOf_ok (w : World) : ∀ b o v, imOf w b o = some v → w.cell? ⟨b, o, none⟩ = some v := fun _ _ _ h => h
end Go.Proofs.YthnmienjiangkaaGreatDoor.Pi
namespace Go.Proofs.YthnmienjiangkaaGreatDoor.Pi
theorem goDown : type_of% (And.intro (And.intro (And.intro (And.intro (And.intro @run_bind @us6) (And.intro @uja @unr)) (And.intro (And.intro @ulx
    @run_nb) (And.intro @nbR_ok @uvd))) (And.intro (And.intro (And.intro @uh4 @uis) (And.intro @ui6 @ulc)) (And.intro
    (And.intro @ueu @ulh) (And.intro @uqo (And.intro @us8 @uwr))))) (And.intro (And.intro (And.intro (And.intro @ux2
    @uvp) (And.intro @run_pure @uws)) (And.intro (And.intro @ups @uga) (And.intro @ulk @ujt))) (And.intro (And.intro
    (And.intro @ugv @uij) (And.intro @utu @up7)) (And.intro (And.intro @um1 @unk) (And.intro @uts (And.intro
    @ur9 @uq8)))))) := (And.intro (And.intro (And.intro (And.intro (And.intro @run_bind @us6) (And.intro @uja @unr)) (And.intro (And.intro @ulx
    @run_nb) (And.intro @nbR_ok @uvd))) (And.intro (And.intro (And.intro @uh4 @uis) (And.intro @ui6 @ulc)) (And.intro
    (And.intro @ueu @ulh) (And.intro @uqo (And.intro @us8 @uwr))))) (And.intro (And.intro (And.intro (And.intro @ux2
    @uvp) (And.intro @run_pure @uws)) (And.intro (And.intro @ups @uga) (And.intro @ulk @ujt))) (And.intro (And.intro
    (And.intro @ugv @uij) (And.intro @utu @up7)) (And.intro (And.intro @um1 @unk) (And.intro @uts (And.intro
    @ur9 @uq8))))))
theorem goUp : type_of% (And.intro (And.intro (And.intro (And.intro (And.intro (And.intro (And.intro @uir (And.intro @uq9 @run_al)) (And.intro (And.intro @run_bx
    @run_ld) (And.intro @run_st @uqy))) (And.intro (And.intro (And.intro @upu @url) (And.intro @ula @umu)) (And.intro
    (And.intro @ldB_t @ldB_f) (And.intro @stB_is @us7)))) (And.intro (And.intro (And.intro @urt (And.intro @ual @udo)) (And.intro
    (And.intro @u5a @ue5) (And.intro @uqn @u9y))) (And.intro (And.intro (And.intro @u4z @set_set) (And.intro @u9t @cut0))
    (And.intro (And.intro @cut1 @cut2) (And.intro @cutA0 @cutA1))))) (And.intro (And.intro (And.intro (And.intro @cutA2 (And.intro @u8f @u71))
    (And.intro (And.intro @w_i64 @w_u64) (And.intro @w_u8 @w_u32))) (And.intro (And.intro (And.intro @w_i32 @uvv) (And.intro @uub @uqz))
    (And.intro (And.intro @uki @run_fa) (And.intro @uvg @u6s)))) (And.intro (And.intro (And.intro @nc_ptr (And.intro @uwu @nc_nil))
    (And.intro (And.intro @run_mi @run_pn) (And.intro @uwi @uw4))) (And.intro (And.intro (And.intro @uwp @uve) (And.intro @urv
    @uqu)) (And.intro (And.intro @uqk @ui4) (And.intro @uiq @unu)))))) (And.intro (And.intro (And.intro (And.intro
    (And.intro @un4 (And.intro @umv @u7o)) (And.intro (And.intro @uiy @ugc) (And.intro @ujk @ujo)))
    (And.intro (And.intro (And.intro @uiz @ubq) (And.intro @uls @ujv)) (And.intro (And.intro @umz @ulz) (And.intro
    @ul8 @uoh)))) (And.intro (And.intro (And.intro @unx (And.intro @ujq @ult)) (And.intro (And.intro @unf
    @umx) (And.intro @utv @um7))) (And.intro (And.intro (And.intro @uio @ulq) (And.intro @umf @unz))
    (And.intro (And.intro @uuf @uii) (And.intro @ui7 @uik))))) (And.intro (And.intro (And.intro (And.intro @uju
    (And.intro @ujp @uqe)) (And.intro (And.intro @ugi @ufe) (And.intro @uia @uhb))) (And.intro (And.intro
    (And.intro @ui1 @ub4) (And.intro @us4 @umt)) (And.intro (And.intro @us3 @ur2) (And.intro @uq7 @low_fn))))
    (And.intro (And.intro (And.intro @ugb (And.intro @uf8 @ui8)) (And.intro (And.intro @ugs @ui5) (And.intro
    @unl @ugl))) (And.intro (And.intro (And.intro @uf5 @uhc) (And.intro @uhj @ugm)) (And.intro
    (And.intro @udk @uc1) (And.intro @uav @ucc))))))) (And.intro (And.intro (And.intro (And.intro (And.intro
    (And.intro @uc4 (And.intro @uc3 @uf9)) (And.intro (And.intro @umr @uji) (And.intro @un6
    @unh))) (And.intro (And.intro (And.intro @umg @uam) (And.intro @unj @uin)) (And.intro (And.intro @ulv
    @unp) (And.intro @un8 @ugu)))) (And.intro (And.intro (And.intro @ugp (And.intro @ufa @uha)) (And.intro
    (And.intro @ugx @uhp) (And.intro @ulm @u6u))) (And.intro (And.intro (And.intro @u5b @uqp) (And.intro @run_bd
    @uh6)) (And.intro (And.intro @uex @ulf) (And.intro @run_bs @uvq))))) (And.intro (And.intro (And.intro (And.intro
    @uuz (And.intro @uqt @urh)) (And.intro (And.intro @una @uhz) (And.intro @ui9 @uhn))) (And.intro
    (And.intro (And.intro @uhl @uey) (And.intro @uf6 @udv)) (And.intro (And.intro @ugo @uj7)
    (And.intro @ung @uh5)))) (And.intro (And.intro (And.intro @um8 (And.intro @ulr @uj6)) (And.intro (And.intro
    @um0 @uc6) (And.intro @ui2 @ur0))) (And.intro (And.intro (And.intro @ugq @umc) (And.intro @ueh
    @uhk)) (And.intro (And.intro @uje @ufd) (And.intro @uig @ujd)))))) (And.intro (And.intro (And.intro
    (And.intro (And.intro @ujs (And.intro @uai @uf2)) (And.intro (And.intro @umn @bi_add) (And.intro @bi_sub
    @bi_mul))) (And.intro (And.intro (And.intro @bi_eql @bi_neq) (And.intro @bi_lss @bi_leq)) (And.intro (And.intro @bi_gtr @bi_geq) (And.intro
    @ux5 @uui)))) (And.intro (And.intro (And.intro @utz (And.intro @uw2 @un_not)) (And.intro (And.intro @ulg @uvs) (And.intro
    @mx_int @mn_int))) (And.intro (And.intro (And.intro @cv_int @Bool.and_true) (And.intro @Bool.true_and @Bool.and_self)) (And.intro (And.intro
    @Bool.not_true @Bool.not_false) (And.intro @Bool.and_false @Bool.false_and))))) (And.intro (And.intro (And.intro (And.intro @Bool.or_true
    (And.intro @Bool.or_false @Bool.true_or)) (And.intro (And.intro @Bool.false_or @Bool.false_eq_true) (And.intro @decide_eq_true_eq @and_self)))
    (And.intro (And.intro (And.intro @and_true @true_and) (And.intro @not_true_eq_false @not_false_eq_true)) (And.intro (And.intro @Nat.zero_add
    @Nat.add_zero) (And.intro @Nat.le_refl @Nat.lt_add_one)))) (And.intro (And.intro (And.intro (And.intro @Nat.lt_irrefl @and_false) (And.intro
    @false_and @Bool.not_eq_true')) (And.intro (And.intro @Bool.not_eq_eq_eq_not @decide_eq_false_iff_not) (And.intro @Bool.and_eq_true
    @Bool.or_eq_true))) (And.intro (And.intro (And.intro @decide_true @decide_false) (And.intro @udp @udq)) (And.intro (And.intro @ufy
    @ugr) (And.intro @ubm @u7v)))))))) := (And.intro (And.intro (And.intro (And.intro (And.intro (And.intro (And.intro @uir (And.intro @uq9 @run_al)) (And.intro (And.intro @run_bx
    @run_ld) (And.intro @run_st @uqy))) (And.intro (And.intro (And.intro @upu @url) (And.intro @ula @umu)) (And.intro
    (And.intro @ldB_t @ldB_f) (And.intro @stB_is @us7)))) (And.intro (And.intro (And.intro @urt (And.intro @ual @udo)) (And.intro
    (And.intro @u5a @ue5) (And.intro @uqn @u9y))) (And.intro (And.intro (And.intro @u4z @set_set) (And.intro @u9t @cut0))
    (And.intro (And.intro @cut1 @cut2) (And.intro @cutA0 @cutA1))))) (And.intro (And.intro (And.intro (And.intro @cutA2 (And.intro @u8f @u71))
    (And.intro (And.intro @w_i64 @w_u64) (And.intro @w_u8 @w_u32))) (And.intro (And.intro (And.intro @w_i32 @uvv) (And.intro @uub @uqz))
    (And.intro (And.intro @uki @run_fa) (And.intro @uvg @u6s)))) (And.intro (And.intro (And.intro @nc_ptr (And.intro @uwu @nc_nil))
    (And.intro (And.intro @run_mi @run_pn) (And.intro @uwi @uw4))) (And.intro (And.intro (And.intro @uwp @uve) (And.intro @urv
    @uqu)) (And.intro (And.intro @uqk @ui4) (And.intro @uiq @unu)))))) (And.intro (And.intro (And.intro (And.intro
    (And.intro @un4 (And.intro @umv @u7o)) (And.intro (And.intro @uiy @ugc) (And.intro @ujk @ujo)))
    (And.intro (And.intro (And.intro @uiz @ubq) (And.intro @uls @ujv)) (And.intro (And.intro @umz @ulz) (And.intro
    @ul8 @uoh)))) (And.intro (And.intro (And.intro @unx (And.intro @ujq @ult)) (And.intro (And.intro @unf
    @umx) (And.intro @utv @um7))) (And.intro (And.intro (And.intro @uio @ulq) (And.intro @umf @unz))
    (And.intro (And.intro @uuf @uii) (And.intro @ui7 @uik))))) (And.intro (And.intro (And.intro (And.intro @uju
    (And.intro @ujp @uqe)) (And.intro (And.intro @ugi @ufe) (And.intro @uia @uhb))) (And.intro (And.intro
    (And.intro @ui1 @ub4) (And.intro @us4 @umt)) (And.intro (And.intro @us3 @ur2) (And.intro @uq7 @low_fn))))
    (And.intro (And.intro (And.intro @ugb (And.intro @uf8 @ui8)) (And.intro (And.intro @ugs @ui5) (And.intro
    @unl @ugl))) (And.intro (And.intro (And.intro @uf5 @uhc) (And.intro @uhj @ugm)) (And.intro
    (And.intro @udk @uc1) (And.intro @uav @ucc))))))) (And.intro (And.intro (And.intro (And.intro (And.intro
    (And.intro @uc4 (And.intro @uc3 @uf9)) (And.intro (And.intro @umr @uji) (And.intro @un6
    @unh))) (And.intro (And.intro (And.intro @umg @uam) (And.intro @unj @uin)) (And.intro (And.intro @ulv
    @unp) (And.intro @un8 @ugu)))) (And.intro (And.intro (And.intro @ugp (And.intro @ufa @uha)) (And.intro
    (And.intro @ugx @uhp) (And.intro @ulm @u6u))) (And.intro (And.intro (And.intro @u5b @uqp) (And.intro @run_bd
    @uh6)) (And.intro (And.intro @uex @ulf) (And.intro @run_bs @uvq))))) (And.intro (And.intro (And.intro (And.intro
    @uuz (And.intro @uqt @urh)) (And.intro (And.intro @una @uhz) (And.intro @ui9 @uhn))) (And.intro
    (And.intro (And.intro @uhl @uey) (And.intro @uf6 @udv)) (And.intro (And.intro @ugo @uj7)
    (And.intro @ung @uh5)))) (And.intro (And.intro (And.intro @um8 (And.intro @ulr @uj6)) (And.intro (And.intro
    @um0 @uc6) (And.intro @ui2 @ur0))) (And.intro (And.intro (And.intro @ugq @umc) (And.intro @ueh
    @uhk)) (And.intro (And.intro @uje @ufd) (And.intro @uig @ujd)))))) (And.intro (And.intro (And.intro
    (And.intro (And.intro @ujs (And.intro @uai @uf2)) (And.intro (And.intro @umn @bi_add) (And.intro @bi_sub
    @bi_mul))) (And.intro (And.intro (And.intro @bi_eql @bi_neq) (And.intro @bi_lss @bi_leq)) (And.intro (And.intro @bi_gtr @bi_geq) (And.intro
    @ux5 @uui)))) (And.intro (And.intro (And.intro @utz (And.intro @uw2 @un_not)) (And.intro (And.intro @ulg @uvs) (And.intro
    @mx_int @mn_int))) (And.intro (And.intro (And.intro @cv_int @Bool.and_true) (And.intro @Bool.true_and @Bool.and_self)) (And.intro (And.intro
    @Bool.not_true @Bool.not_false) (And.intro @Bool.and_false @Bool.false_and))))) (And.intro (And.intro (And.intro (And.intro @Bool.or_true
    (And.intro @Bool.or_false @Bool.true_or)) (And.intro (And.intro @Bool.false_or @Bool.false_eq_true) (And.intro @decide_eq_true_eq @and_self)))
    (And.intro (And.intro (And.intro @and_true @true_and) (And.intro @not_true_eq_false @not_false_eq_true)) (And.intro (And.intro @Nat.zero_add
    @Nat.add_zero) (And.intro @Nat.le_refl @Nat.lt_add_one)))) (And.intro (And.intro (And.intro (And.intro @Nat.lt_irrefl @and_false) (And.intro
    @false_and @Bool.not_eq_true')) (And.intro (And.intro @Bool.not_eq_eq_eq_not @decide_eq_false_iff_not) (And.intro @Bool.and_eq_true
    @Bool.or_eq_true))) (And.intro (And.intro (And.intro @decide_true @decide_false) (And.intro @udp @udq)) (And.intro (And.intro @ufy
    @ugr) (And.intro @ubm @u7v))))))))
theorem cr : (∀ {α : Type} {a : α} {l : List α}, (a :: l).length = l.length + 1) ∧ (∀ {α : Type}, ([] : List α).length = 0) ∧ (∀ {α β : Type} {f : α → β} {a : α} {l : List α}, (a :: l).map f = f a :: l.map f) ∧ (∀ {α β : Type} {f : α → β}, [].map f = []) ∧ (∀ {α : Type} {a : α} {l : List α} {i : Nat}, (a :: l).take (i + 1) = a :: l.take i) ∧ (∀ {α : Type} {l : List α}, l.take 0 = []) ∧ (∀ {α : Type} {a : α} {l : List α} {i : Nat}, (a :: l).drop (i + 1) = l.drop i) ∧ (∀ {α : Type} {l : List α}, l.drop 0 = l) ∧ (∀ {α : Type} {i : Nat}, ([] : List α).drop i = []) ∧ (∀ {α : Type} {i : Nat}, ([] : List α).take i = []) ∧ (∀ {α : Type} {a : α} {l k : List α}, a :: l ++ k = a :: (l ++ k)) ∧ (∀ {α : Type} {l : List α}, [] ++ l = l) ∧ (∀ {α : Type} {l : List α}, l ++ [] = l) ∧ (∀ {α : Type} {a b : α} {l : List α}, (a :: l).set 0 b = b :: l) ∧ (∀ {α : Type} {a b : α} {l : List α} {i : Nat}, (a :: l).set (i + 1) b = a :: l.set i b) ∧ (∀ {α : Type} {f : α → Bool} {a : α} {l : List α}, (a :: l).all f = (f a && l.all f)) ∧ (∀ {α : Type} {f : α → Bool}, [].all f = true) ∧ (∀ {a b : Int}, a ≥ b ↔ b ≤ a) ∧ (∀ {a b : Nat}, a ≥ b ↔ b ≤ a) ∧ (∀ {a b : Int}, a > b ↔ b < a) ∧ (∀ {a b : Nat}, a > b ↔ b < a) ∧ (∀ {α : Type} [BEq α] [ReflBEq α] {a : α}, (a == a) = true) ∧ (∀ {α : Type} [BEq α] [LawfulBEq α] {a b : α}, (a == b) = true ↔ a = b) ∧ (∀ {α : Type} [BEq α] [LawfulBEq α] {a b : α}, (a != b) = true ↔ a ≠ b) ∧ (∀ {α : Type} {a b : α}, (a ≠ b) = ¬ a = b) ∧ (∀ {α : Type} {p : Prop} [Decidable p] {x y : α}, (if ¬ p then x else y) = if p then y else x) ∧ (∀ {α : Type} {p : Prop} [Decidable p] {x : α}, (if p then x else x) = x) ∧ (∀ {α : Type} {a b : α}, (some a).getD b = a) ∧ (∀ {α : Type} {b : α}, (none : Option α).getD b = b) :=
  ⟨List.length_cons, List.length_nil, List.map_cons, List.map_nil, List.take_succ_cons, List.take_zero, List.drop_succ_cons, List.drop_zero, List.drop_nil, List.take_nil, List.cons_append, (List.nil_append _), (List.append_nil _), List.set_cons_zero, List.set_cons_succ, List.all_cons, List.all_nil, Iff.rfl, Iff.rfl, Iff.rfl, Iff.rfl, (beq_self_eq_true _), beq_iff_eq, bne_iff_ne, (ne_eq _ _), (ite_not _ _ _), (ite_self _), Option.getD_some, Option.getD_none⟩
end Go.Proofs.YthnmienjiangkaaGreatDoor.Pi
namespace Go.Proofs.YthnmienjiangkaaGreatDoor.Pi
variable {α β σ : Type} {c : Nat} {H : Heap}
def St (H : Heap) (c : Nat) (bx : Box) (L : List Box) : Heap := hadd (hset H c bx) L
def killR (c : Nat) : Option (Out α) → Option (Out α)
  | some (.pan v H) => some (.pan v (hset H c .dead))
  | r => r
def runK (c : Nat) (m : M α) (H : Heap) : Option (Out α) := killR c (run m H)
def bindK (c : Nat) (r : Option (Out α)) (f : α → M β) : Option (Out β) :=
  match r with
  | none => none
  | some (.ok v H) => runK c (f v) H
  | some (.pan v H) => some (.pan v H)
inductive Res (σ α : Type) where
  | ok (v : α) (s : σ)
  | err (t : TypeId) (l : List Int)
  | no
def fltP (t : TypeId) (l : List Int) : PV := .iface t (.agg (l.map (PV.int .i64)))
theorem up3 {t : TypeId} {l : List Int} : fltP t l = .iface t (.agg (l.map (PV.int .i64))) := nrfl rfl
theorem u3r {n : Nat} : ∀ l : List Int, lowL n (l.map (PV.int .i64)) = true
  | [] => u6u
  | a :: r => by rw [List.map_cons, u5b, u7o, u3r r]; rfl
theorem uka {t : TypeId} {l : List Int} {n : Nat} : (fltP t l).low n = true := by
  unfold fltP
  rw [udk, uam]
  exact u3r l
def Res.bind {σ τ α β : Type} (r : Res σ α) (g : α → σ → Res τ β) : Res τ β :=
  match r with
  | .ok v s => g v s
  | .err t l => .err t l
  | .no => .no
def elimK {σ α γ : Type} (c : Nat) (H : Heap) (L : List Box) (r : Res σ α) (g : α → σ → Option (Out γ)) : Option (Out γ) :=
  match r with
  | .ok v s => g v s
  | .err t l => some (.pan (fltP t l) (St H c .dead L))
  | .no => none
def outK (c : Nat) (H : Heap) (L : List Box) (bx : σ → Box) (enc : α → PV) (r : Res σ α) : Option (Out PV) := elimK c H L r fun v s => some (.ok (enc v) (St H c (bx s) L))
def outS (c : Nat) (H : Heap) (L : List Box) (bx : σ → Box) (enc : α → PV) (r : α × σ) : Option (Out PV) := some (.ok (enc r.1) (St H c (bx r.2) L))
@[congr] theorem v002 {r r' : Option (Out α)} {f : α → M β} (h : r = r') : bindK c r f = bindK c r' f := by rw [h]
@[congr] theorem v003 {σ α γ : Type} {L L' : List Box} {r r' : Res σ α} {g g' : α → σ → Option (Out γ)} (h : r = r') (hL : L = L') (hg : ∀ v s, r' = .ok v s → g v s = g' v s) : elimK c H L r g = elimK c H L' r' g' := by
  subst h hL
  cases r with
  | ok v s => exact hg v s rfl
  | err t l => rfl
  | no => rfl
theorem uwa {L : List Box} {bx : σ → Box} {enc : α → PV} {r : Res σ α} : outK c H L bx enc r = elimK c H L r fun v s => some (.ok (enc v) (St H c (bx s) L)) := nrfl rfl
theorem ul5 {L : List Box} {bx : σ → Box} {enc : α → PV} {v : α} {s : σ} : outK c H L bx enc (.ok v s) = some (.ok (enc v) (St H c (bx s) L)) := nrfl rfl
theorem ufo {L : List Box} {bx : σ → Box} {enc : α → PV} {t : TypeId} {l : List Int} : outK c H L bx enc (Res.err t l : Res σ α) = some (.pan (fltP t l) (St H c .dead L)) := nrfl rfl
theorem uwt {L : List Box} {bx : σ → Box} {enc : α → PV} : outK c H L bx enc (Res.no : Res σ α) = none := nrfl rfl
theorem usa {γ : Type} {L : List Box} {g : α → σ → Option (Out γ)} : elimK c H L (Res.no : Res σ α) g = none := nrfl rfl
theorem uln {τ : Type} {β : Type} {L : List Box} {bx : σ → Box} {enc : α → PV} {r : Res τ β} {g : β → τ → Res σ α} : outK c H L bx enc (r.bind g) = elimK c H L r fun v s => outK c H L bx enc (g v s) := by cases r <;> rfl
theorem uqb {L : List Box} {bx : σ → Box} {enc : α → PV} {p : Prop} [Decidable p] {r r' : Res σ α} : outK c H L bx enc (if p then r else r') = if p then outK c H L bx enc r else outK c H L bx enc r' := by split <;> rfl
theorem urn {γ : Type} {L : List Box} {v : α} {s : σ} {g : α → σ → Option (Out γ)} : elimK c H L (.ok v s) g = g v s := nrfl rfl
theorem umo {γ : Type} {L : List Box} {t : TypeId} {l : List Int} {g : α → σ → Option (Out γ)} : elimK c H L (Res.err t l : Res σ α) g = some (.pan (fltP t l) (St H c .dead L)) := nrfl rfl
theorem und {γ : Type} {L : List Box} {p : Prop} [Decidable p] {r r' : Res σ α} {g : α → σ → Option (Out γ)} : elimK c H L (if p then r else r') g = if p then elimK c H L r g else elimK c H L r' g := by split <;> rfl
theorem uj3 {γ τ β : Type} {L : List Box} {r : Res τ β} {f : β → τ → Res σ α} {g : α → σ → Option (Out γ)} : elimK c H L (r.bind f) g = elimK c H L r fun v s => elimK c H L (f v s) g := by cases r <;> rfl
theorem ur5 {v : α} : killR c (some (.ok v H)) = some (.ok v H) := nrfl rfl
theorem uiv : killR c (none : Option (Out α)) = none := nrfl rfl
theorem udd {v : PV} : killR c (some (.pan v H) : Option (Out α)) = some (.pan v (hset H c .dead)) := nrfl rfl
theorem un9 {p : Prop} [Decidable p] {r r' : Option (Out α)} : killR c (if p then r else r') = if p then killR c r else killR c r' := by split <;> rfl
theorem un3 {m : M α} {f : α → M β} : runK c (M.bind m f) H = bindK c (runK c m H) f := by
  unfold runK
  rw [run_bind]
  cases run m H with
  | none => rfl
  | some q => cases q <;> rfl
theorem urk {f : α → M β} {v : α} : bindK c (some (.ok v H)) f = runK c (f v) H := nrfl rfl
theorem ujf {f : α → M β} : bindK c none f = none := nrfl rfl
theorem umi {f : α → M β} {v : PV} : bindK c (some (.pan v H)) f = some (.pan v H) := nrfl rfl
theorem uma {p : Prop} [Decidable p] {r r' : Option (Out α)} {f : α → M β} : bindK c (if p then r else r') f = if p then bindK c r f else bindK c r' f := by split <;> rfl
theorem uiu {L : List Box} {r : Res σ α} {g : α → σ → Option (Out PV)} {f : PV → M β} : bindK c (elimK c H L r g) f = elimK c H L r fun v s => bindK c (g v s) f := by cases r <;> rfl
noncomputable def nbK (c : Nat) (H : Heap) (r : Option (Out α)) (f : α → M β) : Option (Out β) := killR c (nbR H r f)
@[congr] theorem v01f {r r' : Option (Out α)} {f : α → M β} (h : r = r') : nbK c H r f = nbK c H r' f := by rw [h]
theorem utx {m : M α} {f : α → M β} : runK c (nb m f) H = nbK c H (runK c m H) f := by
  unfold nbK runK nbR run nb killR
  dsimp only
  cases m H with
  | none => rfl
  | some q => cases q <;> rfl
theorem nbK_ok {f : α → M β} {v : α} : nbK c H (some (.ok v H)) f = runK c (f v) H := by
  unfold nbK
  rw [nbR_ok]
  rfl
theorem uqq {f : α → M β} : nbK c H none f = none := by
  unfold nbK nbR nb
  rfl
theorem uvx {p : Prop} [Decidable p] {r r' : Option (Out α)} {f : α → M β} : nbK c H (if p then r else r') f = if p then nbK c H r f else nbK c H r' f := by split <;> rfl
theorem usr {m : M PV} (hc : c < List.length H) : runK c (trunc m) H = truncR H (runK c m H) := by
  unfold runK
  rw [uh4]
  cases run m H with
  | none => rfl
  | some q => cases q with
    | ok v K => rfl
    | pan v K =>
      show killR c (bif v.low H.length then some (Out.pan v (hcut K H.length)) else none) = (bif v.low H.length then some (Out.pan v (hcut (hset K c .dead) H.length)) else none)
      cases v.low H.length with
      | false => rfl
      | true =>
        simp only [cond_true, udd, Option.some.injEq, Out.pan.injEq, true_and]
        unfold hset hcut
        rw [List.take_set]
theorem uih {p : Bool} {m : M α} : runK c (guardM p m) H = if p = true then runK c m H else none := by cases p <;> rfl
theorem unq {v : PV} {m : M PV} : runK c (resT v m) H = if isTup v = true then none else runK c m H := by unfold resT; cases isTup v <;> rfl
theorem un0 {p : Bool} {x y : M α} : runK c (condM (.bool p) x y) H = if p = true then runK c x H else runK c y H := by cases p <;> rfl
theorem urb {p : Bool} {m : M PV} : runK c (gd (.bool p) true m) H = if p = true then runK c m H else some (.ok (.tup []) H) := by cases p <;> rfl
theorem uq0 {p : Bool} {m : M PV} : runK c (gd (.bool p) false m) H = if p = true then some (.ok (.tup []) H) else runK c m H := by cases p <;> rfl
theorem uqh {b : Bool} {m : M PV} : runK c (gd (.tup []) b m) H = some (.ok (.tup []) H) := nrfl rfl
theorem um3 {v : α} : runK c (M.pure v) H = some (.ok v H) := nrfl rfl
theorem uq4 {v : PV} : runK c (M.pan v : M α) H = some (.pan v (hset H c .dead)) := nrfl rfl
theorem uli : runK c (M.fail : M α) H = none := nrfl rfl
theorem uj1 {m : M PV} : runK c (noPan m) H = noPanR (run m H) := by
  unfold runK
  rw [uga]
  cases run m H with
  | none => rfl
  | some q => cases q <;> rfl
noncomputable def chkK (c : Nat) (r r' : Option (Out α)) (x : M β) (H : Heap) : Option (Out β) := killR c (chkR r r' x H)
@[congr] theorem v01a {r r' s s' : Option (Out α)} {x : M β} (h : r = s) (h' : r' = s') : chkK c r r' x H = chkK c s s' x H := by rw [h, h']
theorem ur3 {m m' : M α} {x : M β} : runK c (chk m m' x) H = chkK c (run m H) (run m' H) x H := nrfl rfl
theorem uuy {a : α} {K : Heap} {x : M β} : chkK c (some (.ok a K)) (some (.ok a K)) x H = runK c x H := by
  unfold chkK
  rw [up7]
  rfl
theorem une {r : Option (Out α)} {x : M β} : chkK c none r x H = none := by
  unfold chkK chkR run chk
  rfl
theorem ure {p : Prop} [Decidable p] {r r' s : Option (Out α)} {x : M β} : chkK c (if p then r else r') s x H = if p then chkK c r s x H else chkK c r' s x H := by split <;> rfl
theorem ulb {r : Option (Out α)} {x : M β} : chkR none r x H = none := by
  unfold chkR run chk
  rfl
theorem urp {p : Prop} [Decidable p] {r r' s : Option (Out α)} {x : M β} : chkR (if p then r else r') s x H = if p then chkR r s x H else chkR r' s x H := by split <;> rfl
section
variable {n : Nat} {id o : Nat} {x y v i : PV} {cs : List PV} {m : Option Nat} {mv b : Bool} {L : List Box}
theorem uvw : runK c (al cs) H = killR c (run (al cs) H) := nrfl rfl
theorem uv0 : runK c (bx n v) H = killR c (run (bx n v) H) := nrfl rfl
theorem uu4 : runK c (ld m mv v) H = killR c (run (ld m mv v) H) := nrfl rfl
theorem uv3 : runK c (st n mv x v) H = killR c (run (st n mv x v) H) := nrfl rfl
theorem usb : runK c (iaS n x i) H = killR c (run (iaS n x i) H) := nrfl rfl
theorem us9 {len : Nat} : runK c (ixA len n m x i) H = killR c (run (ixA len n m x i) H) := nrfl rfl
theorem um4 : runK c (pick v x y) H = killR c (run (pick v x y) H) := nrfl rfl
theorem uw1 {t : TypeId} : runK c (mi t v) H = killR c (run (mi t v) H) := nrfl rfl
theorem uwc {t : FuncId} {l l' : List PV} : runK c (mf t l l') H = killR c (run (mf t l l') H) := nrfl rfl
theorem ux8 {z : List PV} {ps : List (Nat × Nat × PV)} : runK c (bd z ps) H = killR c (run (bd z ps) H) := nrfl rfl
theorem ux4 {l : List PV} : runK c (bs b m l) H = killR c (run (bs b m l) H) := nrfl rfl
theorem uxb {k : Nat} : runK c (ap b n k x y) H = killR c (run (ap b n k x y) H) := nrfl rfl
theorem uu1 {k : Nat} : runK c (mk b n k x y) H = killR c (run (mk b n k x y) H) := nrfl rfl
theorem us1 : runK c (lnS x) H = killR c (run (lnS x) H) := nrfl rfl
theorem usd : runK c (lnL x) H = killR c (run (lnL x) H) := nrfl rfl
theorem ur4 : runK c (ixS x i) H = killR c (run (ixS x i) H) := nrfl rfl
theorem ur1 {lo hi : Option PV} : runK c (slS x lo hi) H = killR c (run (slS x lo hi) H) := nrfl rfl
theorem uri {lo hi : Option PV} : runK c (slL n x lo hi) H = killR c (run (slL n x lo hi) H) := nrfl rfl
theorem uuj {k : Cv} : runK c (cv k b x) H = killR c (run (cv k b x) H) := nrfl rfl
theorem utw : runK c (ex n x) H = killR c (run (ex n x) H) := nrfl rfl
theorem uvh {op : BinOp} {ek : EqK} : runK c (bi op ek x y) H = killR c (run (bi op ek x y) H) := nrfl rfl
theorem toK {m : M PV} : runK c m H = killR c (run m H) := nrfl rfl
theorem uck {x : Box} (hc : c < List.length H) : St H c x L = St (hadd H L) c x [] := by
  unfold St hadd hset
  rw [List.append_nil, List.set_append_left _ _ hc]
theorem St_out {x : Box} {K : Heap} {L' : List Box} (hK : K = hadd H L) (hc : c < List.length H) : St K c x L' = St H c x (L ++ L') := by
  subst hK
  unfold St hadd hset
  rw [List.set_append_left _ _ hc, List.append_assoc]
theorem u8w {K : Heap} {L' : List Box} {bx : σ → Box} {enc : α → PV} {r : Res σ α} (hK : K = hadd H L) (hc : c < List.length H) : outK c K L' bx enc r = outK c H (L ++ L') bx enc r := by
  cases r <;> simp only [outK, elimK, St_out hK hc]
theorem len_St {x : Box} : List.length (St H c x L) = List.length H + List.length L := by unfold St; rw [u8f, u71]
theorem get_St {x : Box} (hc : c < List.length H) : hget (St H c x L) c = some x := by unfold St; rw [ubm hc, u4z hc]
theorem uuk {x : Box} (k : Nat) : hget (St H c x L) (List.length H + k) = nth L k := udp k
theorem ur6 {x : Box} : hget (St H c x L) (List.length H) = nth L 0 := udq
theorem set_St {x y : Box} (hc : c < List.length H) : hset (St H c x L) c y = St H c y L := by unfold St; rw [u7v hc, set_set]
theorem uvo {x y : Box} (k : Nat) : hset (St H c x L) (List.length H + k) y = St H c x (L.set k y) := ufy k
theorem us5 {x y : Box} : hset (St H c x L) (List.length H) y = St H c x (L.set 0 y) := ugr
theorem add_St {x : Box} {K : List Box} : hadd (St H c x L) K = St H c x (L ++ K) := u9t
theorem cut_St {x : Box} : hcut (St H c x L) (List.length H) = St H c x [] := by
  unfold St
  rw [cutA1]
  exact (List.append_nil _).symm
theorem uhu {r : Res σ α} {bx : Box} {g : α → σ → Option (Out PV)} : truncR (St H c bx []) (elimK c H L r g) = elimK c H [] r fun v s => truncR (St H c bx []) (g v s) := by
  cases r with
  | ok v s => rfl
  | err t l =>
    show truncR (St H c bx []) (some (Out.pan (fltP t l) (St H c .dead L))) = some (Out.pan (fltP t l) (St H c .dead []))
    rw [ueu, if_pos uka, len_St, List.length_nil, Nat.add_zero, cut_St]
  | no => rfl
theorem uhm {m : M PV} {x : Box} (hc : c < List.length H) : runK c (trunc m) (St H c x L) = truncR (St H c x L) (runK c m (St H c x L)) := usr (by rw [len_St]; omega)
theorem liftK {m : M PV} {x : Box} {bx : σ → Box} {enc : α → PV} {r : Res σ α} (h : ∀ H, c < List.length H → runK c m (St H c x []) = outK c H [] bx enc r) (hc : c < List.length H) : runK c m (St H c x L) = outK c H L bx enc r := by
  rw [uck hc, h _ (by rw [u8f]; omega)]
  cases r with
  | ok v s => rw [ul5, ul5, uck (L := L) hc]
  | err t l => rw [ufo, ufo, uck (L := L) hc]
  | no => rfl
theorem uwz {bx : σ → Box} {enc : α → PV} {v : α} {s : σ} : outS c H L bx enc (v, s) = some (.ok (enc v) (St H c (bx s) L)) := nrfl rfl
theorem ux1 {bx : σ → Box} {enc : α → PV} {r : α × σ} {f : PV → M β} : bindR (outS c H L bx enc r) f = run (f (enc r.1)) (St H c (bx r.2) L) := nrfl rfl
end
end Go.Proofs.YthnmienjiangkaaGreatDoor.Pi
namespace Go.Proofs.YthnmienjiangkaaGreatDoor.Pi
theorem kDown : type_of% (And.intro (And.intro (And.intro (And.intro (And.intro @ul5 @ufo) (And.intro @uwt (And.intro @usa @uln))) (And.intro
    (And.intro @uqb @urn) (And.intro @umo (And.intro @und @uj3)))) (And.intro (And.intro (And.intro @ur5 @uiv)
    (And.intro @udd (And.intro @un9 @un3))) (And.intro (And.intro @urk (And.intro @ujf @umi)) (And.intro @uma
    (And.intro @uiu @uhu))))) (And.intro (And.intro (And.intro (And.intro @utx @nbK_ok) (And.intro @uqq (And.intro @uvx
    @uhm))) (And.intro (And.intro @uih (And.intro @unq @un0)) (And.intro @urb (And.intro @uq0 @uqh))))
    (And.intro (And.intro (And.intro @um3 @uq4) (And.intro @uli (And.intro @uj1 @ur3))) (And.intro (And.intro @uuy
    (And.intro @une @ure)) (And.intro @ulb (And.intro @urp @ux1)))))) := (And.intro (And.intro (And.intro (And.intro (And.intro @ul5 @ufo) (And.intro @uwt (And.intro @usa @uln))) (And.intro
    (And.intro @uqb @urn) (And.intro @umo (And.intro @und @uj3)))) (And.intro (And.intro (And.intro @ur5 @uiv)
    (And.intro @udd (And.intro @un9 @un3))) (And.intro (And.intro @urk (And.intro @ujf @umi)) (And.intro @uma
    (And.intro @uiu @uhu))))) (And.intro (And.intro (And.intro (And.intro @utx @nbK_ok) (And.intro @uqq (And.intro @uvx
    @uhm))) (And.intro (And.intro @uih (And.intro @unq @un0)) (And.intro @urb (And.intro @uq0 @uqh))))
    (And.intro (And.intro (And.intro @um3 @uq4) (And.intro @uli (And.intro @uj1 @ur3))) (And.intro (And.intro @uuy
    (And.intro @une @ure)) (And.intro @ulb (And.intro @urp @ux1))))))
theorem kUp : type_of% (And.intro (And.intro (And.intro (And.intro (And.intro @uwa @uwz) (And.intro @up3 @uka)) (And.intro (And.intro @uvw @uv0)
    (And.intro @uu4 @uv3))) (And.intro (And.intro (And.intro @usb @us9) (And.intro @um4 @uw1)) (And.intro (And.intro
    @uwc @ux8) (And.intro @ux4 (And.intro @uxb @uu1))))) (And.intro (And.intro (And.intro (And.intro @us1 @usd)
    (And.intro @ur4 @ur1)) (And.intro (And.intro @uri @uuj) (And.intro @utw @uvh))) (And.intro (And.intro (And.intro @len_St
    @get_St) (And.intro @uuk @ur6)) (And.intro (And.intro @set_St @uvo) (And.intro @us5 (And.intro @add_St @cut_St)))))) := (And.intro (And.intro (And.intro (And.intro (And.intro @uwa @uwz) (And.intro @up3 @uka)) (And.intro (And.intro @uvw @uv0)
    (And.intro @uu4 @uv3))) (And.intro (And.intro (And.intro @usb @us9) (And.intro @um4 @uw1)) (And.intro (And.intro
    @uwc @ux8) (And.intro @ux4 (And.intro @uxb @uu1))))) (And.intro (And.intro (And.intro (And.intro @us1 @usd)
    (And.intro @ur4 @ur1)) (And.intro (And.intro @uri @uuj) (And.intro @utw @uvh))) (And.intro (And.intro (And.intro @len_St
    @get_St) (And.intro @uuk @ur6)) (And.intro (And.intro @set_St @uvo) (And.intro @us5 (And.intro @add_St @cut_St))))))
end Go.Proofs.YthnmienjiangkaaGreatDoor.Pi
namespace Go.Proofs.YthnmienjiangkaaGreatDoor.Pi.Q
open Go Go.Proofs.YthnmienjiangkaaGreatDoor.Pi
noncomputable abbrev P : Program := Tryz.prog
noncomputable abbrev X : ExtT := fun _ => none
noncomputable abbrev C := callW P X
noncomputable abbrev CD := callDW P X
abbrev u25 : FuncId := 4
abbrev u95 : FuncId := 13
abbrev u5t : FuncId := 17
abbrev u6m : FuncId := 18
abbrev u8i : FuncId := 19
abbrev u3d : FuncId := 20
abbrev u79 : FuncId := 21
abbrev u1l : FuncId := 23
abbrev u5v : FuncId := 28
abbrev u5h : FuncId := 31
abbrev u6q : FuncId := 34
abbrev u35 : FuncId := 37
abbrev u1m : FuncId := 38
abbrev u8y : FuncId := 44
abbrev u5o : FuncId := 45
abbrev u46 : FuncId := 46
abbrev u4b : FuncId := 47
abbrev u07 : FuncId := 48
abbrev u23 : FuncId := 49
abbrev u2o : FuncId := 50
abbrev u3x : FuncId := 51
abbrev u2e : FuncId := 52
abbrev u4n : FuncId := 53
abbrev u4w : FuncId := 54
abbrev u3w : FuncId := 55
abbrev u0c : FuncId := 57
abbrev u04 : FuncId := 58
abbrev u0j : FuncId := 59
abbrev u6y : FuncId := 60
abbrev u1r : FuncId := 61
abbrev u2q : FuncId := 64
abbrev u0x : FuncId := 68
abbrev u11 : FuncId := 70
abbrev u3y : FuncId := 72
abbrev u3c : FuncId := 73
abbrev u7t : FuncId := 77
abbrev u28 : FuncId := 78
abbrev u8d : FuncId := 79
abbrev u5z : FuncId := 80
abbrev u4v : FuncId := 81
abbrev u3a : FuncId := 82
abbrev u36 : FuncId := 83
abbrev u3j : FuncId := 84
abbrev u0h : FuncId := 85
abbrev u2r : FuncId := 86
abbrev u1e : FuncId := 87
abbrev u29 : FuncId := 88
abbrev u2j : FuncId := 89
abbrev u49 : FuncId := 90
abbrev u0f : FuncId := 91
abbrev u75 : FuncId := 92
abbrev u2n : FuncId := 93
abbrev u6p : FuncId := 94
abbrev u87 : FuncId := 95
abbrev ugg : FuncId := 96
abbrev u3u : FuncId := 97
abbrev udb : FuncId := 98
abbrev u3s : FuncId := 99
abbrev u7x : FuncId := 100
abbrev u6b : FuncId := 101
abbrev uah : FuncId := 104
abbrev u3v : FuncId := 105
abbrev u67 : FuncId := 109
abbrev u66 : FuncId := 110
abbrev u2d : FuncId := 111
abbrev u39 : FuncId := 112
abbrev u6i : FuncId := 113
abbrev u6f : FuncId := 114
abbrev u4t : FuncId := 115
abbrev u3p : FuncId := 116
abbrev u2i : FuncId := 117
abbrev u15 : FuncId := 118
abbrev u61 : FuncId := 119
abbrev u3l : FuncId := 120
abbrev uds : FuncId := 121
abbrev u3g : FuncId := 122
abbrev udw : FuncId := 123
abbrev u4x : FuncId := 124
abbrev u56 : FuncId := 125
abbrev uc8 : FuncId := 126
abbrev uc9 : FuncId := 127
abbrev u4j : FuncId := 128
abbrev u7c : FuncId := 131
abbrev u21 : FuncId := 132
abbrev u4l : FuncId := 133
abbrev u1u : FuncId := 134
abbrev u1o : FuncId := 135
abbrev u0g : FuncId := 136
abbrev u6c : FuncId := 137
abbrev u1i : FuncId := 138
abbrev ugd : FuncId := 139
abbrev u4c : FuncId := 140
abbrev u7n : FuncId := 141
abbrev u90 : FuncId := 142
abbrev u1d : FuncId := 145
abbrev u4a : FuncId := 146
abbrev udg : FuncId := 147
abbrev u1w : FuncId := 148
abbrev u6n : FuncId := 149
abbrev u1z : FuncId := 150
abbrev u2x : FuncId := 151
abbrev u4s : FuncId := 152
abbrev u02 : TypeId := 127
abbrev u4o : TypeId := 189
end Go.Proofs.YthnmienjiangkaaGreatDoor.Pi.Q
namespace Go.Proofs.YthnmienjiangkaaGreatDoor.Pi.Q
open Go Go.Proofs.YthnmienjiangkaaGreatDoor.Pi
noncomputable def u27 (v2 v3 v5 v8 : PV) : M PV := atP P X u25 [1, 1, 1] (mkEnv 104 0 [(2, v2), (3, v3), (5, v5), (8, v8)])
noncomputable def u2l (v8 : PV) : M PV := atP P X u25 [1, 1, 1, 1, 1] (mkEnv 104 0 [(8, v8)])
theorem u7a (v2 v3 v5 v8 : PV) : u27 v2 v3 v5 v8 =
 M.bind (ld (some 19) false v5) fun t66_0 =>
 M.bind (C u79 [(strip t66_0)]) fun t67_1 =>
 M.bind (ex 0 t67_1) fun t68_2 =>
 M.bind (ex 1 (tupDrop 0 t67_1)) fun t69_3 =>
 M.bind (bi .eql .none (strip t69_3) (.int .i64 0)) fun t71_4 =>
 condM t71_4
 (M.bind (bs true none []) fun t72_5 =>
 M.bind (ap true 1 1 t72_5 (strip v2)) fun t74_6 =>
 M.bind (ap true 1 1 t74_6 (strip t68_2)) fun t76_7 =>
 M.bind (ap true 1 1 t76_7 (strip v3)) fun t78_8 =>
 M.bind (lnL (strip v2)) fun t82_9 =>
 M.bind (C u95 [(strip (strip t78_8)), (strip t82_9)]) fun t83_10 =>
 M.bind (ex 0 t83_10) fun t84_11 =>
 M.bind (ex 1 (tupDrop 0 t83_10)) fun t85_12 =>
 M.bind (ex 2 (tupDrop 1 (tupDrop 0 t83_10))) fun t86_13 =>
 M.bind (al [(.str ⟨#[]⟩), (.str ⟨#[]⟩), (.int .i64 0), (.int .i64 0), (.int .i64 0), (.bool false), (.int .i64 0), (.bool false), (.int .u64 0), (.int .u64 0), (.bool false), (.bool false), (.int .u64 0), (.int .u64 0), (.bool false), (.int .i64 0), (.bool false), (.int .i64 0), (.bool false)]) fun t17_14 =>
 M.bind (st 19 true t17_14 t84_11) fun _ =>
 M.bind (bi .neq .none (strip t86_13) (.int .i64 0)) fun t88_16 =>
 M.bind (gd (strip t88_16) false (M.pure (strip t85_12))) fun t90_17 =>
 M.bind (gd (strip t88_16) false (M.pure (strip v2))) fun t91_18 =>
 M.bind (gd (strip t88_16) false (lnL t91_18)) fun t92_19 =>
 M.bind (gd (strip t88_16) false (M.pure (strip t68_2))) fun t93_20 =>
 M.bind (gd (strip t88_16) false (lnL t93_20)) fun t94_21 =>
 M.bind (gd (strip t88_16) false (bi .add .none t92_19 t94_21)) fun t95_22 =>
 M.bind (gd (strip t88_16) false (bi .neq .none t90_17 t95_22)) fun t96_23 =>
 M.bind (pick (strip t88_16) (.bool true) t96_23) fun t97_24 =>
 M.bind (gd (strip t97_24) false (ld (some 19) false t17_14)) fun t99_25 =>
 M.bind (gd (strip t97_24) false (ld (some 19) false v5)) fun t100_26 =>
 M.bind (gd (strip t97_24) false (bi .neq (.struct [.str, .str, .int, .int, .int, .bool, .int, .bool, .int, .int, .bool, .bool, .int, .int, .bool, .int, .bool, .int, .bool]) t99_25 t100_26)) fun t101_27 =>
 M.bind (pick (strip t97_24) (.bool true) t101_27) fun t102_28 =>
 condM t102_28
 (M.pure (.bool false))
 (u2l v8))
 (u2l v8) :=
 (u05 P X _ _ _).trans (by kernel_rfl)
theorem u3q (v8 : PV) : u2l v8 =
 M.bind (C u5t []) fun t103_0 =>
 resT t103_0 (M.pure t103_0) :=
 (u05 P X _ _ _).trans (by kernel_rfl)
theorem u93 (a0 a1 a2 a3 : PV) : C u25 [a0, a1, a2, a3] =
 trunc (M.bind (bx 2 a0) fun t4_0 =>
 M.bind (bx 19 a1) fun t5_1 =>
 M.bind (ld (some 2) false t4_0) fun t21_2 =>
 M.bind (C u6m [(strip t21_2)]) fun t22_3 =>
 M.bind (ex 0 t22_3) fun t23_4 =>
 M.bind (ex 1 (tupDrop 0 t22_3)) fun t24_5 =>
 M.bind (bi .eql .none (strip t24_5) (.int .i64 0)) fun t26_6 =>
 condM t26_6
 (M.bind (bs true none []) fun t27_7 =>
 M.bind (ap true 1 1 t27_7 (strip a2)) fun t29_8 =>
 M.bind (ap true 1 1 t29_8 (strip t23_4)) fun t31_9 =>
 M.bind (ap true 1 1 t31_9 (strip a3)) fun t33_10 =>
 M.bind (lnL (strip a2)) fun t37_11 =>
 M.bind (C u8i [(strip (strip t33_10)), (strip t37_11)]) fun t38_12 =>
 M.bind (ex 0 t38_12) fun t39_13 =>
 M.bind (ex 1 (tupDrop 0 t38_12)) fun t40_14 =>
 M.bind (ex 2 (tupDrop 1 (tupDrop 0 t38_12))) fun t41_15 =>
 M.bind (al [(.slice false true 0 []), (.bool false)]) fun t12_16 =>
 M.bind (st 2 true t12_16 t39_13) fun _ =>
 M.bind (ld (some 2) true t4_0) fun t42_18 =>
 M.bind (al [(.slice false true 0 []), (.bool false)]) fun t15_19 =>
 M.bind (st 2 true t15_19 t42_18) fun _ =>
 M.bind (fa 0 t4_0) fun t43_21 =>
 M.bind (ld none false t43_21) fun t44_22 =>
 M.bind (lnL t44_22) fun t45_23 =>
 M.bind (bi .neq .none t45_23 (.int .i64 1)) fun t46_24 =>
 M.bind (fa 1 t15_19) fun t47_25 =>
 M.bind (st 1 true t47_25 t46_24) fun _ =>
 M.bind (bi .neq .none (strip t41_15) (.int .i64 0)) fun t49_27 =>
 M.bind (gd (strip t49_27) false (M.pure (strip t40_14))) fun t51_28 =>
 M.bind (gd (strip t49_27) false (M.pure (strip a2))) fun t52_29 =>
 M.bind (gd (strip t49_27) false (lnL t52_29)) fun t53_30 =>
 M.bind (gd (strip t49_27) false (M.pure (strip t23_4))) fun t54_31 =>
 M.bind (gd (strip t49_27) false (lnL t54_31)) fun t55_32 =>
 M.bind (gd (strip t49_27) false (bi .add .none t53_30 t55_32)) fun t56_33 =>
 M.bind (gd (strip t49_27) false (bi .neq .none t51_28 t56_33)) fun t57_34 =>
 M.bind (pick (strip t49_27) (.bool true) t57_34) fun t58_35 =>
 M.bind (gd (strip t58_35) false (ld (some 2) false t12_16)) fun t60_36 =>
 M.bind (gd (strip t58_35) false (ld (some 2) false t15_19)) fun t61_37 =>
 M.bind (gd (strip t58_35) false (C u3d [(strip t60_36), (strip t61_37)])) fun t62_38 =>
 M.bind (gd (strip t58_35) false (un .not t62_38)) fun t63_39 =>
 M.bind (pick (strip t58_35) (.bool true) t63_39) fun t64_40 =>
 condM t64_40
 (M.pure (.bool false))
 (u27 a2 a3 t5_1 (.bool false)))
 (u27 a2 a3 t5_1 (.bool false))) := by
 rw [C, u00 _ _ rfl]; kernel_rfl
theorem ugz (a0 a1 : PV) : C u95 [a0, a1] =
 trunc (M.bind (al [(.str ⟨#[]⟩), (.str ⟨#[]⟩), (.int .i64 0), (.int .i64 0), (.int .i64 0), (.bool false), (.int .i64 0), (.bool false), (.int .u64 0), (.int .u64 0), (.bool false), (.bool false), (.int .u64 0), (.int .u64 0), (.bool false), (.int .i64 0), (.bool false), (.int .i64 0), (.bool false)]) fun t4_0 =>
 M.bind (C u35 [(strip (strip a0)), (strip (strip a1)), (.fn u1m [] [])]) fun t9_1 =>
 M.bind (ex 0 t9_1) fun t10_2 =>
 M.bind (ex 1 (tupDrop 0 t9_1)) fun t11_3 =>
 M.bind (ex 2 (tupDrop 1 (tupDrop 0 t9_1))) fun t12_4 =>
 M.bind (st 19 true t4_0 t10_2) fun _ =>
 M.bind (ld (some 19) true t4_0) fun t0_6 => guardM (!isTup t0_6) (resT t11_3 (resT t12_4 (M.pure (.tup [t0_6, t11_3, t12_4]))))) := by
 rw [C, u00 _ _ rfl]; kernel_rfl
theorem ube : C u5t [] =
 trunc (M.bind (bd [(.int .i64 0), (.bool false), (.int .i64 0)] [(0, 1, (.int .i64 1))]) fun t4_0 =>
 M.bind (C u8y [(strip t4_0)]) fun t5_1 =>
 M.bind (ex 0 t5_1) fun t6_2 =>
 M.bind (ex 1 (tupDrop 0 t5_1)) fun t7_3 =>
 M.bind (bi .eql .none (strip t7_3) (.int .i64 0)) fun t9_4 =>
 M.bind (gd (strip t9_4) true (M.pure (strip t6_2))) fun t11_5 =>
 M.bind (gd (strip t9_4) true (cv .bytesToStr true t11_5)) fun t12_6 =>
 M.bind (gd (strip t9_4) true (bi .eql .none t12_6 (.str ⟨#[127]⟩))) fun t13_7 =>
 M.bind (pick (strip t9_4) t13_7 (.bool false)) fun t14_8 =>
 resT t14_8 (M.pure t14_8)) := by
 rw [C, u00 _ _ rfl]; kernel_rfl
theorem ud4 (a0 : PV) : C u6m [a0] =
 trunc (M.bind (bx 2 a0) fun t1_0 =>
 M.bind (mf u46 [] [t1_0]) fun t4_1 =>
 M.bind (C u5o [(strip t4_1)]) fun t5_2 =>
 M.bind (ex 0 t5_2) fun t6_3 =>
 M.bind (ex 1 (tupDrop 0 t5_2)) fun t7_4 =>
 resT t6_3 (resT t7_4 (M.pure (.tup [t6_3, t7_4])))) := by
 rw [C, u00 _ _ rfl]; kernel_rfl
theorem ufg (a0 a1 : PV) : C u8i [a0, a1] =
 trunc (M.bind (al [(.slice false true 0 []), (.bool false)]) fun t4_0 =>
 M.bind (C u2o [(strip (strip a0)), (strip (strip a1)), (.fn u3x [] [])]) fun t9_1 =>
 M.bind (ex 0 t9_1) fun t10_2 =>
 M.bind (ex 1 (tupDrop 0 t9_1)) fun t11_3 =>
 M.bind (ex 2 (tupDrop 1 (tupDrop 0 t9_1))) fun t12_4 =>
 M.bind (st 2 true t4_0 t10_2) fun _ =>
 M.bind (ld (some 2) true t4_0) fun t0_6 => guardM (!isTup t0_6) (resT t11_3 (resT t12_4 (M.pure (.tup [t0_6, t11_3, t12_4]))))) := by
 rw [C, u00 _ _ rfl]; kernel_rfl
noncomputable def u1b (v2 v3 v4 v5 : PV) : M PV := atP P X u3d [1, 1, 0, 1, 0] (mkEnv 39 0 [(2, v2), (3, v3), (4, v4), (5, v5)])
theorem u48 (v2 v3 v4 v5 : PV) : u1b v2 v3 v4 v5 =
 M.bind (fa 0 v2) fun t21_0 =>
 M.bind (ld none false t21_0) fun t22_1 =>
 M.bind (lnL t22_1) fun t23_2 =>
 M.bind (bi .lss .none (strip v5) t23_2) fun t24_3 =>
 condM t24_3
 (M.bind (noPan (fa 0 v2)) fun t27_16 =>
 M.bind (noPan (M.pure (strip v5))) fun t29_17 =>
 M.bind (noPan (fa 0 v3)) fun t32_18 =>
 M.bind (noPan (M.pure (strip v5))) fun t34_19 =>
 M.bind (noPan (ld none false t27_16)) fun t28_20 =>
 M.bind (noPan (iaS 6 t28_20 t29_17)) fun t30_21 =>
 M.bind (noPan (ld (some 6) false t30_21)) fun t31_22 =>
 M.bind (noPan (ld none false t32_18)) fun t33_23 =>
 M.bind (noPan (iaS 6 t33_23 t34_19)) fun t35_24 =>
 M.bind (noPan (ld (some 6) false t35_24)) fun t36_25 =>
 M.bind (noPan (C u2e [(strip t31_22), (strip t36_25)])) fun t37_26 =>
 M.bind (noPan (un .not t37_26)) fun t38_27 =>
 condM t38_27
 (M.pure (.bool false))
 (M.bind (bi .add .none (strip v5) (.int .i64 1)) fun t26_28 =>
 u1b v2 v3 v4 t26_28))
 (M.pure (.bool true)) :=
 (u05 P X _ _ _).trans (by kernel_rfl)
theorem ua8 (a0 a1 : PV) : C u3d [a0, a1] =
 trunc (M.bind (bx 2 a0) fun t2_0 =>
 M.bind (bx 2 a1) fun t3_1 =>
 M.bind (fa 1 t2_0) fun t6_2 =>
 M.bind (ld none false t6_2) fun t7_3 =>
 M.bind (fa 1 t3_1) fun t8_4 =>
 M.bind (ld none false t8_4) fun t9_5 =>
 M.bind (bi .neq .bool t7_3 t9_5) fun t10_6 =>
 M.bind (gd (strip t10_6) false (fa 0 t2_0)) fun t12_7 =>
 M.bind (gd (strip t10_6) false (ld none false t12_7)) fun t13_8 =>
 M.bind (gd (strip t10_6) false (lnL t13_8)) fun t14_9 =>
 M.bind (gd (strip t10_6) false (fa 0 t3_1)) fun t15_10 =>
 M.bind (gd (strip t10_6) false (ld none false t15_10)) fun t16_11 =>
 M.bind (gd (strip t10_6) false (lnL t16_11)) fun t17_12 =>
 M.bind (gd (strip t10_6) false (bi .neq .none t14_9 t17_12)) fun t18_13 =>
 M.bind (pick (strip t10_6) (.bool true) t18_13) fun t19_14 =>
 condM t19_14
 (M.pure (.bool false))
 (u1b t2_0 t3_1 (.bool false) (.int .i64 0))) := by
 rw [C, u00 _ _ rfl]; kernel_rfl
theorem uda (a0 : PV) : C u79 [a0] =
 trunc (M.bind (bx 19 a0) fun t1_0 =>
 M.bind (mf u4n [] [t1_0]) fun t4_1 =>
 M.bind (C u5o [(strip t4_1)]) fun t5_2 =>
 M.bind (ex 0 t5_2) fun t6_3 =>
 M.bind (ex 1 (tupDrop 0 t5_2)) fun t7_4 =>
 resT t6_3 (resT t7_4 (M.pure (.tup [t6_3, t7_4])))) := by
 rw [C, u00 _ _ rfl]; kernel_rfl
noncomputable def u2k (v1 v2 v3 : PV) : M PV := atP P X u1l [1, 1, 1] (mkEnv 37 0 [(1, v1), (2, v2), (3, v3)])
noncomputable def u30 (v2 v4 : PV) : M PV := atP P X u1l [1, 1, 1, 1, 1, 1, 1] (mkEnv 37 0 [(2, v2), (4, v4)])
theorem u7y (v1 v2 v3 : PV) : u2k v1 v2 v3 =
 M.bind (bi .gtr .none (strip v3) (.int .u8 1)) fun t22_0 =>
 M.bind (bi .and .none (strip v3) (.int .u8 1)) fun t24_1 =>
 M.bind (bi .eql .none t24_1 (.int .u8 1)) fun t25_2 =>
 M.bind (bd [(.bool false), (.int .u64 0), (.int .u64 0), (.bool false)] [(0, 1, t22_0), (3, 1, t25_2)]) fun t26_3 =>
 M.bind (al [(.bool false), (.int .u64 0), (.int .u64 0), (.bool false)]) fun t4_4 =>
 M.bind (st 4 true t4_4 t26_3) fun _ =>
 M.bind (mf u0j [] [t4_4, v1]) fun t27_6 =>
 M.bind (callV P C (strip t27_6) []) fun t29_7 =>
 M.bind (fa 1 t4_4) fun t30_8 =>
 M.bind (st 1 true t30_8 t29_7) fun _ =>
 M.bind (fa 3 t4_4) fun t31_10 =>
 M.bind (ld none false t31_10) fun t32_11 =>
 condM t32_11
 (M.bind (callV P C (strip t27_6) []) fun t34_12 =>
 M.bind (fa 2 t4_4) fun t35_13 =>
 M.bind (st 1 true t35_13 t34_12) fun _ =>
 u30 v2 t4_4)
 (u30 v2 t4_4) :=
 (u05 P X _ _ _).trans (by kernel_rfl)
theorem u2c (v2 v4 : PV) : u30 v2 v4 =
 M.bind (ld (some 4) true v4) fun t36_0 =>
 M.bind (st 4 true v2 t36_0) fun _ =>
 M.bind (ld (some 4) true v2) fun t0_2 => guardM (!isTup t0_2) (M.pure t0_2) :=
 (u05 P X _ _ _).trans (by kernel_rfl)
theorem uac (a0 : PV) : C u1l [a0] =
 trunc (M.bind (bx 1 a0) fun t1_0 =>
 M.bind (al [(.bool false), (.int .u64 0), (.int .u64 0), (.bool false)]) fun t2_1 =>
 M.bind (ld none false t1_0) fun t6_2 =>
 M.bind (C u0c [(strip t6_2), (.int .u8 5)]) fun t7_3 =>
 M.bind (bi .gtr .none (strip t7_3) (.int .u8 1)) fun t9_4 =>
 M.bind (gd (strip t9_4) true (M.pure (strip t7_3))) fun t11_5 =>
 M.bind (gd (strip t9_4) true (bi .lss .none t11_5 (.int .u8 4))) fun t12_6 =>
 M.bind (pick (strip t9_4) t12_6 (.bool false)) fun t13_7 =>
 condM t13_7
 (M.bind (noPan (ld none false t1_0)) fun t14_14 =>
 M.bind (noPan (ld none false t1_0)) fun t15_15 =>
 M.bind (noPan (nc P t15_15)) fun t16_16 =>
 M.bind (noPan (fa 1 t16_16)) fun t17_17 =>
 M.bind (noPan (ld none false t17_17)) fun t18_18 =>
 M.bind (noPan (bi .sub .none t18_18 (.int .i64 1))) fun t19_19 =>
 M.bind (C u04 [(strip t14_14), (strip t19_19), (.int .i64 4)]) fun t20_20 =>
 u2k t1_0 t2_1 t7_3)
 (u2k t1_0 t2_1 t7_3)) := by
 rw [C, u00 _ _ rfl]; kernel_rfl
theorem uaw (a0 : PV) : C u5v [a0] =
 trunc (M.bind (al [(.int .i64 0), (.bool false), (.int .i64 0), (.bool false), (.int .u64 0), (.int .u64 0), (.bool false)]) fun t2_0 =>
 M.bind (C u2q [(strip (strip a0))]) fun t5_1 =>
 M.bind (bd [(.int .i64 0), (.bool false), (.int .i64 0), (.bool false), (.int .u64 0), (.int .u64 0), (.bool false)] [(0, 3, t5_1)]) fun t6_2 =>
 M.bind (al [(.int .i64 0), (.bool false), (.int .i64 0), (.bool false), (.int .u64 0), (.int .u64 0), (.bool false)]) fun t3_3 =>
 M.bind (st 7 true t3_3 t6_2) fun _ =>
 M.bind (C u1l [(strip (strip a0))]) fun t8_5 =>
 M.bind (fa 3 t3_3) fun t9_6 =>
 M.bind (st 4 true t9_6 t8_5) fun _ =>
 M.bind (ld (some 7) true t3_3) fun t10_8 =>
 M.bind (st 7 true t2_0 t10_8) fun _ =>
 M.bind (ld (some 7) true t2_0) fun t0_10 => guardM (!isTup t0_10) (M.pure t0_10)) := by
 rw [C, u00 _ _ rfl]; kernel_rfl
end Go.Proofs.YthnmienjiangkaaGreatDoor.Pi.Q
namespace Go.Proofs.YthnmienjiangkaaGreatDoor.Pi.Q
open Go Go.Proofs.YthnmienjiangkaaGreatDoor.Pi
theorem uad (a0 : PV) : C u5h [a0] =
 trunc (M.bind (al [(.int .i64 0), (.bool false), (.int .i64 0), (.bool false)]) fun t2_0 =>
 M.bind (C u0x [(strip (strip a0))]) fun t5_1 =>
 M.bind (bd [(.int .i64 0), (.bool false), (.int .i64 0), (.bool false)] [(0, 3, t5_1)]) fun t6_2 =>
 M.bind (al [(.int .i64 0), (.bool false), (.int .i64 0), (.bool false)]) fun t3_3 =>
 M.bind (st 4 true t3_3 t6_2) fun _ =>
 M.bind (C u0c [(strip (strip a0)), (.int .u8 1)]) fun t8_5 =>
 M.bind (bi .eql .none t8_5 (.int .u8 1)) fun t9_6 =>
 M.bind (fa 3 t3_3) fun t10_7 =>
 M.bind (st 1 true t10_7 t9_6) fun _ =>
 M.bind (ld (some 4) true t3_3) fun t11_9 =>
 M.bind (st 4 true t2_0 t11_9) fun _ =>
 M.bind (ld (some 4) true t2_0) fun t0_11 => guardM (!isTup t0_11) (M.pure t0_11)) := by
 rw [C, u00 _ _ rfl]; kernel_rfl
theorem uct (a0 : PV) : C u6q [a0] =
 trunc (M.bind (C u0c [(strip (strip a0)), (.int .u8 0)]) fun t4_0 =>
 M.bind (C u11 [(strip (strip a0))]) fun t6_1 =>
 resT t6_1 (M.pure t6_1)) := by
 rw [C, u00 _ _ rfl]; kernel_rfl
theorem u9j (a0 a1 a2 : PV) : C u35 [a0, a1, a2] =
 trunc (M.bind (al [(.str ⟨#[]⟩), (.str ⟨#[]⟩), (.int .i64 0), (.int .i64 0), (.int .i64 0), (.bool false), (.int .i64 0), (.bool false), (.int .u64 0), (.int .u64 0), (.bool false), (.bool false), (.int .u64 0), (.int .u64 0), (.bool false), (.int .i64 0), (.bool false), (.int .i64 0), (.bool false)]) fun t6_0 =>
 M.bind (al [(.int .i64 0)]) fun t7_1 =>
 M.bind (al [(.int .i64 0)]) fun t8_2 =>
 M.bind (al [(.str ⟨#[]⟩), (.str ⟨#[]⟩), (.int .i64 0), (.int .i64 0), (.int .i64 0), (.bool false), (.int .i64 0), (.bool false), (.int .u64 0), (.int .u64 0), (.bool false), (.bool false), (.int .u64 0), (.int .u64 0), (.bool false), (.int .i64 0), (.bool false), (.int .i64 0), (.bool false)]) fun t9_3 =>
 M.bind (bi .lss .none (strip a1) (.int .i64 0)) fun t12_4 =>
 M.bind (gd (strip t12_4) false (M.pure (strip a1))) fun t14_5 =>
 M.bind (gd (strip t12_4) false (M.pure (strip a0))) fun t15_6 =>
 M.bind (gd (strip t12_4) false (lnL t15_6)) fun t16_7 =>
 M.bind (gd (strip t12_4) false (bi .gtr .none t14_5 t16_7)) fun t17_8 =>
 M.bind (pick (strip t12_4) (.bool true) t17_8) fun t18_9 =>
 condM t18_9
 (M.bind (ld (some 19) true t9_3) fun t19_10 =>
 M.bind (st 19 true t6_0 t19_10) fun _ =>
 M.bind (st 1 false t7_1 (.int .i64 0)) fun _ =>
 M.bind (st 1 false t8_2 (.int .i64 1)) fun _ =>
 M.bind (ld (some 19) true t6_0) fun t0_14 => guardM (!isTup t0_14) (M.bind (ld none true t7_1) fun t0_15 => guardM (!isTup t0_15) (M.bind (ld none true t8_2) fun t0_16 => guardM (!isTup t0_16) (M.pure (.tup [t0_14, t0_15, t0_16])))))
 (M.bind (mf u3y [] [t9_3, t6_0, t7_1, t8_2]) fun t20_17 =>
 guardM (isPtr t6_0 && isPtr t7_1 && isPtr t8_2) <| deferM CD t20_17 []
 (M.bind (bd [(.slice false true 0 []), (.int .i64 0)] [(0, 1, (strip a0)), (1, 1, (strip a1))]) fun t23_18 =>
 M.bind (bx 2 t23_18) fun t24_19 =>
 M.bind (callV P C (strip a2) [(strip (strip t24_19))]) fun t27_20 =>
 M.bind (st 19 true t6_0 t27_20) fun _ =>
 chk
 (M.bind (noPan (M.pure (strip t24_19))) fun t29_30 =>
 M.bind (noPan (nc P t29_30)) fun t30_31 =>
 M.bind (noPan (fa 1 t30_31)) fun t31_32 =>
 M.bind (noPan (ld (some 19) true t6_0)) fun t28_33 =>
 M.bind (noPan (st 19 true t6_0 t28_33)) fun _ =>
 M.bind (noPan (ld none true t31_32)) fun t32_35 =>
 M.bind (noPan (st 1 true t7_1 t32_35)) fun _ =>
 M.bind (noPan (st 1 false t8_2 (.int .i64 0))) fun _ =>
 M.pure [a0, a1, a2, .undef, .undef, .undef, t6_0, t7_1, t8_2, t9_3, t24_19, (strip a1), t12_4, (strip t12_4), t14_5, t15_6, t16_7, t17_8, t18_9, .undef, t20_17, (strip a0), (strip a1), t23_18, (strip t24_19), (strip a2), (strip t24_19), (strip t27_20), (strip t28_33), t29_30, t30_31, t31_32, (strip t32_35)])
 (M.bind (noPan (M.pure (strip t24_19))) fun t29_22 =>
 M.bind (noPan (nc P t29_22)) fun t30_23 =>
 M.bind (noPan (fa 1 t30_23)) fun t31_24 =>
 M.bind (noPan (ld (some 19) true t6_0)) fun t28_25 =>
 M.bind (noPan (ld none true t31_24)) fun t32_26 =>
 M.bind (noPan (st 19 true t6_0 t28_25)) fun _ =>
 M.bind (noPan (st 1 true t7_1 t32_26)) fun _ =>
 M.bind (noPan (st 1 false t8_2 (.int .i64 0))) fun _ =>
 M.pure [a0, a1, a2, .undef, .undef, .undef, t6_0, t7_1, t8_2, t9_3, t24_19, (strip a1), t12_4, (strip t12_4), t14_5, t15_6, t16_7, t17_8, t18_9, .undef, t20_17, (strip a0), (strip a1), t23_18, (strip t24_19), (strip a2), (strip t24_19), (strip t27_20), (strip t28_25), t29_22, t30_23, t31_24, (strip t32_26)]) <|
 chk
 (M.bind (noPan (M.pure (strip t24_19))) fun t29_38 =>
 M.bind (noPan (nc P t29_38)) fun t30_39 =>
 M.bind (noPan (fa 1 t30_39)) fun t31_40 =>
 M.bind (noPan (ld none true t31_40)) fun t32_41 =>
 M.bind (noPan (ld (some 19) true t6_0)) fun t28_42 =>
 M.bind (noPan (st 19 true t6_0 t28_42)) fun _ =>
 M.bind (noPan (st 1 true t7_1 t32_41)) fun _ =>
 M.bind (noPan (st 1 false t8_2 (.int .i64 0))) fun _ =>
 M.pure [a0, a1, a2, .undef, .undef, .undef, t6_0, t7_1, t8_2, t9_3, t24_19, (strip a1), t12_4, (strip t12_4), t14_5, t15_6, t16_7, t17_8, t18_9, .undef, t20_17, (strip a0), (strip a1), t23_18, (strip t24_19), (strip a2), (strip t24_19), (strip t27_20), (strip t28_42), t29_38, t30_39, t31_40, (strip t32_41)])
 (M.bind (noPan (M.pure (strip t24_19))) fun t29_22 =>
 M.bind (noPan (nc P t29_22)) fun t30_23 =>
 M.bind (noPan (fa 1 t30_23)) fun t31_24 =>
 M.bind (noPan (ld (some 19) true t6_0)) fun t28_25 =>
 M.bind (noPan (ld none true t31_24)) fun t32_26 =>
 M.bind (noPan (st 19 true t6_0 t28_25)) fun _ =>
 M.bind (noPan (st 1 true t7_1 t32_26)) fun _ =>
 M.bind (noPan (st 1 false t8_2 (.int .i64 0))) fun _ =>
 M.pure [a0, a1, a2, .undef, .undef, .undef, t6_0, t7_1, t8_2, t9_3, t24_19, (strip a1), t12_4, (strip t12_4), t14_5, t15_6, t16_7, t17_8, t18_9, .undef, t20_17, (strip a0), (strip a1), t23_18, (strip t24_19), (strip a2), (strip t24_19), (strip t27_20), (strip t28_25), t29_22, t30_23, t31_24, (strip t32_26)]) <|
 M.bind (noPan (M.pure (strip t24_19))) fun t29_46 =>
 M.bind (noPan (nc P t29_46)) fun t30_47 =>
 M.bind (noPan (fa 1 t30_47)) fun t31_48 =>
 M.bind (noPan (ld (some 19) true t6_0)) fun t28_49 =>
 M.bind (noPan (ld none true t31_48)) fun t32_50 =>
 M.bind (noPan (st 19 true t6_0 t28_49)) fun _ =>
 M.bind (noPan (st 1 true t7_1 t32_50)) fun _ =>
 M.bind (noPan (st 1 false t8_2 (.int .i64 0))) fun _ =>
 M.bind (ld (some 19) true t6_0) fun t0_54 => guardM (!isTup t0_54) (M.bind (ld none true t7_1) fun t0_55 => guardM (!isTup t0_55) (M.bind (ld none true t8_2) fun t0_56 => guardM (!isTup t0_56) (M.pure (.tup [t0_54, t0_55, t0_56])))))
 (M.bind (ld (some 19) true t6_0) fun t0_57 => guardM (!isTup t0_57) (M.bind (ld none true t7_1) fun t0_58 => guardM (!isTup t0_58) (M.bind (ld none true t8_2) fun t0_59 => guardM (!isTup t0_59) (M.pure (.tup [t0_57, t0_58, t0_59]))))))) := by
 rw [C, u00 _ _ rfl]; kernel_rfl
noncomputable def u0m (v2 v3 : PV) : M PV := atP P X u1m [1, 1, 1, 1, 1] (mkEnv 49 0 [(2, v2), (3, v3)])
theorem u03 (v2 v3 : PV) : u0m v2 v3 =
 M.bind (ld (some 19) true v3) fun t48_0 =>
 M.bind (st 19 true v2 t48_0) fun _ =>
 M.bind (ld (some 19) true v2) fun t0_2 => guardM (!isTup t0_2) (M.pure t0_2) :=
 (u05 P X _ _ _).trans (by kernel_rfl)
theorem u9q (a0 : PV) : C u1m [a0] =
 trunc (M.bind (al [(.str ⟨#[]⟩), (.str ⟨#[]⟩), (.int .i64 0), (.int .i64 0), (.int .i64 0), (.bool false), (.int .i64 0), (.bool false), (.int .u64 0), (.int .u64 0), (.bool false), (.bool false), (.int .u64 0), (.int .u64 0), (.bool false), (.int .i64 0), (.bool false), (.int .i64 0), (.bool false)]) fun t2_0 =>
 M.bind (C u3c [(strip (strip a0))]) fun t5_1 =>
 M.bind (bd [(.str ⟨#[]⟩), (.str ⟨#[]⟩), (.int .i64 0), (.int .i64 0), (.int .i64 0), (.bool false), (.int .i64 0), (.bool false), (.int .u64 0), (.int .u64 0), (.bool false), (.bool false), (.int .u64 0), (.int .u64 0), (.bool false), (.int .i64 0), (.bool false), (.int .i64 0), (.bool false)] [(0, 1, t5_1)]) fun t6_2 =>
 M.bind (al [(.str ⟨#[]⟩), (.str ⟨#[]⟩), (.int .i64 0), (.int .i64 0), (.int .i64 0), (.bool false), (.int .i64 0), (.bool false), (.int .u64 0), (.int .u64 0), (.bool false), (.bool false), (.int .u64 0), (.int .u64 0), (.bool false), (.int .i64 0), (.bool false), (.int .i64 0), (.bool false)]) fun t3_3 =>
 M.bind (st 19 true t3_3 t6_2) fun _ =>
 M.bind (C u3c [(strip (strip a0))]) fun t8_5 =>
 M.bind (fa 1 t3_3) fun t9_6 =>
 M.bind (st 1 true t9_6 t8_5) fun _ =>
 M.bind (C u0c [(strip (strip a0)), (.int .u8 4)]) fun t11_8 =>
 M.bind (cv (.int .i64) true t11_8) fun t12_9 =>
 M.bind (fa 2 t3_3) fun t13_10 =>
 M.bind (fa 0 t13_10) fun t14_11 =>
 M.bind (st 1 true t14_11 t12_9) fun _ =>
 M.bind (fa 2 t3_3) fun t15_13 =>
 M.bind (fa 0 t15_13) fun t16_14 =>
 M.bind (ld none false t16_14) fun t17_15 =>
 M.bind (bi .eql .none t17_15 (.int .i64 0)) fun t19_16 =>
 condM t19_16
 (M.bind (C u11 [(strip (strip a0))]) fun t21_17 =>
 M.bind (fa 2 t3_3) fun t22_18 =>
 M.bind (fa 1 t22_18) fun t23_19 =>
 M.bind (st 1 true t23_19 t21_17) fun _ =>
 u0m t2_0 t3_3)
 (M.bind (bi .eql .none t17_15 (.int .i64 1)) fun t25_21 =>
 condM t25_21
 (M.bind (C u5v [(strip (strip a0))]) fun t27_22 =>
 M.bind (fa 2 t3_3) fun t28_23 =>
 M.bind (fa 2 t28_23) fun t29_24 =>
 M.bind (st 7 true t29_24 t27_22) fun _ =>
 u0m t2_0 t3_3)
 (M.bind (bi .eql .none t17_15 (.int .i64 2)) fun t31_26 =>
 condM t31_26
 (M.bind (C u1l [(strip (strip a0))]) fun t33_27 =>
 M.bind (fa 2 t3_3) fun t34_28 =>
 M.bind (fa 9 t34_28) fun t35_29 =>
 M.bind (st 4 true t35_29 t33_27) fun _ =>
 u0m t2_0 t3_3)
 (M.bind (bi .eql .none t17_15 (.int .i64 3)) fun t37_31 =>
 condM t37_31
 (M.bind (C u5h [(strip (strip a0))]) fun t39_32 =>
 M.bind (fa 2 t3_3) fun t40_33 =>
 M.bind (fa 13 t40_33) fun t41_34 =>
 M.bind (st 4 true t41_34 t39_32) fun _ =>
 u0m t2_0 t3_3)
 (M.bind (bi .eql .none t17_15 (.int .i64 4)) fun t43_36 =>
 condM t43_36
 (M.bind (C u6q [(strip (strip a0))]) fun t45_37 =>
 M.bind (fa 2 t3_3) fun t46_38 =>
 M.bind (fa 1 t46_38) fun t47_39 =>
 M.bind (st 1 true t47_39 t45_37) fun _ =>
 u0m t2_0 t3_3)
 (u0m t2_0 t3_3)))))) := by
 rw [C, u00 _ _ rfl]; kernel_rfl
theorem ud0 (a0 : PV) : C u8y [a0] =
 trunc (M.bind (bx 3 a0) fun t1_0 =>
 M.bind (mf u7t [] [t1_0]) fun t4_1 =>
 M.bind (C u5o [(strip t4_1)]) fun t5_2 =>
 M.bind (ex 0 t5_2) fun t6_3 =>
 M.bind (ex 1 (tupDrop 0 t5_2)) fun t7_4 =>
 resT t6_3 (resT t7_4 (M.pure (.tup [t6_3, t7_4])))) := by
 rw [C, u00 _ _ rfl]; kernel_rfl
theorem uc2 (a0 : PV) : C u5o [a0] =
 trunc (M.bind (al [(.slice false true 0 [])]) fun t2_0 =>
 M.bind (al [(.int .i64 0)]) fun t3_1 =>
 M.bind (mf u8d [] [t2_0, t3_1]) fun t5_2 =>
 guardM (isPtr t2_0 && isPtr t3_1) <| deferM CD t5_2 []
 (M.bind (bd [(.slice false true 0 [])] []) fun t6_3 =>
 M.bind (bx 1 t6_3) fun t7_4 =>
 M.bind (callV P C (strip a0) [(strip (strip t7_4))]) fun t10_5 =>
 M.bind (nc P (strip t7_4)) fun t12_6 =>
 M.bind (fa 0 t12_6) fun t13_7 =>
 M.bind (ld none true t13_7) fun t14_8 =>
 M.bind (st 1 true t2_0 t14_8) fun _ =>
 M.bind (st 1 false t3_1 (.int .i64 0)) fun _ =>
 M.bind (ld none true t2_0) fun t0_11 => guardM (!isTup t0_11) (M.bind (ld none true t3_1) fun t0_12 => guardM (!isTup t0_12) (M.pure (.tup [t0_11, t0_12]))))
 (M.bind (ld none true t2_0) fun t0_13 => guardM (!isTup t0_13) (M.bind (ld none true t3_1) fun t0_14 => guardM (!isTup t0_14) (M.pure (.tup [t0_13, t0_14]))))) := by
 rw [C, u00 _ _ rfl]; kernel_rfl
theorem uax (a0 a1 : PV) : C u46 [a0, a1] =
 trunc (M.bind (fa 0 a1) fun t3_0 =>
 M.bind (ld none false t3_0) fun t4_1 =>
 M.bind (lnL t4_1) fun t5_2 =>
 M.bind (bi .eql .none t5_2 (.int .i64 1)) fun t6_3 =>
 condM t6_3
 (M.bind (fa 0 a1) fun t8_4 =>
 M.bind (ld none false t8_4) fun t9_5 =>
 M.bind (iaS 6 t9_5 (.int .i64 0)) fun t10_6 =>
 M.bind (ld (some 6) false t10_6) fun t11_7 =>
 M.bind (C u4b [(strip (strip a0)), (strip t11_7)]) fun t12_8 =>
 M.pure (.tup []))
 (M.bind (C u07 [(strip (strip a0)), (.int .u8 78)]) fun t14_9 =>
 M.bind (fa 0 a1) fun t16_10 =>
 M.bind (ld none false t16_10) fun t17_11 =>
 M.bind (mf u4b [(strip a0)] []) fun t19_12 =>
 M.bind (C u23 [(strip (strip a0)), (strip t17_11), (.int .i64 10000), (strip t19_12)]) fun t20_13 =>
 M.pure (.tup []))) := by
 rw [C, u00 _ _ rfl]; kernel_rfl
noncomputable def u6w (v0 v3 : PV) : M PV := atP P X u4b [1, 1] (mkEnv 34 0 [(0, v0), (3, v3)])
theorem ub6 (v0 v3 : PV) : u6w v0 v3 =
 M.bind (fa 1 v3) fun t25_0 =>
 M.bind (ld none false t25_0) fun t26_1 =>
 M.bind (mf u3a [(strip v0)] []) fun t28_2 =>
 M.bind (C u4v [(strip (strip v0)), (strip t26_1), (.int .i64 1000), (strip t28_2)]) fun t29_3 =>
 M.bind (fa 2 v3) fun t31_4 =>
 M.bind (ld (some 4) false t31_4) fun t32_5 =>
 M.bind (C u5z [(strip (strip v0)), (strip t32_5)]) fun t33_6 =>
 M.pure (.tup []) :=
 (u05 P X _ _ _).trans (by kernel_rfl)
theorem ufk (a0 a1 : PV) : C u4b [a0, a1] =
 trunc (M.bind (bx 6 a1) fun t3_0 =>
 M.bind (fa 0 t3_0) fun t7_1 =>
 M.bind (ld none false t7_1) fun t8_2 =>
 M.bind (gd (strip t8_2) true (fa 1 t3_0)) fun t10_3 =>
 M.bind (gd (strip t8_2) true (ld none false t10_3)) fun t11_4 =>
 M.bind (gd (strip t8_2) true (lnL t11_4)) fun t12_5 =>
 M.bind (gd (strip t8_2) true (bi .eql .none t12_5 (.int .i64 0))) fun t13_6 =>
 M.bind (pick (strip t8_2) t13_6 (.bool false)) fun t14_7 =>
 condM t14_7
 (M.bind (fa 2 t3_0) fun t16_8 =>
 M.bind (ld (some 4) false t16_8) fun t17_9 =>
 M.bind (C u5z [(strip (strip a0)), (strip t17_9)]) fun t18_10 =>
 M.pure (.tup []))
 (M.bind (fa 0 t3_0) fun t20_11 =>
 M.bind (ld none true t20_11) fun t21_12 =>
 condM t21_12
 (M.bind (C u07 [(strip (strip a0)), (.int .u8 79)]) fun t23_13 =>
 u6w a0 t3_0)
 (M.bind (C u07 [(strip (strip a0)), (.int .u8 80)]) fun t5_14 =>
 u6w a0 t3_0))) := by
 rw [C, u00 _ _ rfl]; kernel_rfl
theorem u9f (a0 a1 : PV) : C u07 [a0, a1] =
 trunc (M.bind (nc P (strip a0)) fun t6_0 =>
 M.bind (fa 0 t6_0) fun t7_1 =>
 M.bind (ld none true t7_1) fun t8_2 =>
 M.bind (bs true none [(strip a1)]) fun t10_3 =>
 M.bind (ap true 1 1 t8_2 t10_3) fun t11_4 =>
 M.bind (nc P (strip a0)) fun t12_5 =>
 M.bind (fa 0 t12_5) fun t13_6 =>
 M.bind (st 1 true t13_6 t11_4) fun _ =>
 M.pure (.tup [])) := by
 rw [C, u00 _ _ rfl]; kernel_rfl
noncomputable def u3k (v0 v1 v3 : PV) : M PV := atP P X u23 [1] (mkEnv 31 0 [(0, v0), (1, v1), (3, v3)])
noncomputable def u19 (v3 v21 v22 v23 : PV) : M PV := atP P X u23 [1, 1, 1, 0] (mkEnv 31 0 [(3, v3), (21, v21), (22, v22), (23, v23)])
theorem u7k (v0 v1 v3 : PV) : u3k v0 v1 v3 =
 M.bind (lnL (strip v1)) fun t18_0 =>
 M.bind (cv (.int .u64) true t18_0) fun t19_1 =>
 M.bind (C u36 [(strip (strip v0)), (strip t19_1)]) fun t20_2 =>
 M.bind (lnL (strip v1)) fun t22_3 =>
 u19 v3 (strip v1) t22_3 (.int .i64 0) :=
 (u05 P X _ _ _).trans (by kernel_rfl)
theorem u1f (v3 v21 v22 v23 : PV) : u19 v3 v21 v22 v23 =
 M.bind (bi .lss .none v23 v22) fun t24_0 =>
 condM t24_0
 (M.bind (iaS 6 v21 v23) fun t25_1 =>
 M.bind (ld (some 6) true t25_1) fun t26_2 =>
 M.bind (al [(.bool false), (.slice false true 0 []), (.int .i64 0), (.slice false true 0 []), (.slice false true 0 []), (.slice false true 0 [])]) fun t9_3 =>
 M.bind (st 6 true t9_3 t26_2) fun _ =>
 M.bind (ld (some 6) false t9_3) fun t28_5 =>
 M.bind (callV P C (strip v3) [(strip t28_5)]) fun t29_6 =>
 M.bind (bi .add .none v23 (.int .i64 1)) fun t30_7 =>
 u19 v3 v21 v22 (strip t30_7))
 (M.pure (.tup [])) :=
 (u05 P X _ _ _).trans (by kernel_rfl)
theorem u92 (a0 a1 a2 a3 : PV) : C u23 [a0, a1, a2, a3] =
 trunc (M.bind (lnL (strip a1)) fun t11_0 =>
 M.bind (bi .gtr .none t11_0 (strip a2)) fun t13_1 =>
 condM t13_1
 (M.bind (bd [(.int .i64 0), (.int .i64 0)] [(0, 1, (.int .i64 0)), (1, 1, (.int .i64 2))]) fun t14_2 =>
 M.bind (mi u02 t14_2) fun t15_3 =>
 M.bind (pn t15_3) fun _ =>
 u3k a0 a1 a3)
 (u3k a0 a1 a3)) := by
 rw [C, u00 _ _ rfl]; kernel_rfl
theorem u98 (a0 a1 a2 : PV) : C u2o [a0, a1, a2] =
 trunc (M.bind (al [(.slice false true 0 []), (.bool false)]) fun t6_0 =>
 M.bind (al [(.int .i64 0)]) fun t7_1 =>
 M.bind (al [(.int .i64 0)]) fun t8_2 =>
 M.bind (al [(.slice false true 0 []), (.bool false)]) fun t9_3 =>
 M.bind (bi .lss .none (strip a1) (.int .i64 0)) fun t12_4 =>
 M.bind (gd (strip t12_4) false (M.pure (strip a1))) fun t14_5 =>
 M.bind (gd (strip t12_4) false (M.pure (strip a0))) fun t15_6 =>
 M.bind (gd (strip t12_4) false (lnL t15_6)) fun t16_7 =>
 M.bind (gd (strip t12_4) false (bi .gtr .none t14_5 t16_7)) fun t17_8 =>
 M.bind (pick (strip t12_4) (.bool true) t17_8) fun t18_9 =>
 condM t18_9
 (M.bind (ld (some 2) true t9_3) fun t19_10 =>
 M.bind (st 2 true t6_0 t19_10) fun _ =>
 M.bind (st 1 false t7_1 (.int .i64 0)) fun _ =>
 M.bind (st 1 false t8_2 (.int .i64 1)) fun _ =>
 M.bind (ld (some 2) true t6_0) fun t0_14 => guardM (!isTup t0_14) (M.bind (ld none true t7_1) fun t0_15 => guardM (!isTup t0_15) (M.bind (ld none true t8_2) fun t0_16 => guardM (!isTup t0_16) (M.pure (.tup [t0_14, t0_15, t0_16])))))
 (M.bind (mf u3j [] [t9_3, t6_0, t7_1, t8_2]) fun t20_17 =>
 guardM (isPtr t6_0 && isPtr t7_1 && isPtr t8_2) <| deferM CD t20_17 []
 (M.bind (bd [(.slice false true 0 []), (.int .i64 0)] [(0, 1, (strip a0)), (1, 1, (strip a1))]) fun t23_18 =>
 M.bind (bx 2 t23_18) fun t24_19 =>
 M.bind (callV P C (strip a2) [(strip (strip t24_19))]) fun t27_20 =>
 M.bind (st 2 true t6_0 t27_20) fun _ =>
 chk
 (M.bind (noPan (M.pure (strip t24_19))) fun t29_30 =>
 M.bind (noPan (nc P t29_30)) fun t30_31 =>
 M.bind (noPan (fa 1 t30_31)) fun t31_32 =>
 M.bind (noPan (ld (some 2) true t6_0)) fun t28_33 =>
 M.bind (noPan (st 2 true t6_0 t28_33)) fun _ =>
 M.bind (noPan (ld none true t31_32)) fun t32_35 =>
 M.bind (noPan (st 1 true t7_1 t32_35)) fun _ =>
 M.bind (noPan (st 1 false t8_2 (.int .i64 0))) fun _ =>
 M.pure [a0, a1, a2, .undef, .undef, .undef, t6_0, t7_1, t8_2, t9_3, t24_19, (strip a1), t12_4, (strip t12_4), t14_5, t15_6, t16_7, t17_8, t18_9, .undef, t20_17, (strip a0), (strip a1), t23_18, (strip t24_19), (strip a2), (strip t24_19), (strip t27_20), (strip t28_33), t29_30, t30_31, t31_32, (strip t32_35)])
 (M.bind (noPan (M.pure (strip t24_19))) fun t29_22 =>
 M.bind (noPan (nc P t29_22)) fun t30_23 =>
 M.bind (noPan (fa 1 t30_23)) fun t31_24 =>
 M.bind (noPan (ld (some 2) true t6_0)) fun t28_25 =>
 M.bind (noPan (ld none true t31_24)) fun t32_26 =>
 M.bind (noPan (st 2 true t6_0 t28_25)) fun _ =>
 M.bind (noPan (st 1 true t7_1 t32_26)) fun _ =>
 M.bind (noPan (st 1 false t8_2 (.int .i64 0))) fun _ =>
 M.pure [a0, a1, a2, .undef, .undef, .undef, t6_0, t7_1, t8_2, t9_3, t24_19, (strip a1), t12_4, (strip t12_4), t14_5, t15_6, t16_7, t17_8, t18_9, .undef, t20_17, (strip a0), (strip a1), t23_18, (strip t24_19), (strip a2), (strip t24_19), (strip t27_20), (strip t28_25), t29_22, t30_23, t31_24, (strip t32_26)]) <|
 chk
 (M.bind (noPan (M.pure (strip t24_19))) fun t29_38 =>
 M.bind (noPan (nc P t29_38)) fun t30_39 =>
 M.bind (noPan (fa 1 t30_39)) fun t31_40 =>
 M.bind (noPan (ld none true t31_40)) fun t32_41 =>
 M.bind (noPan (ld (some 2) true t6_0)) fun t28_42 =>
 M.bind (noPan (st 2 true t6_0 t28_42)) fun _ =>
 M.bind (noPan (st 1 true t7_1 t32_41)) fun _ =>
 M.bind (noPan (st 1 false t8_2 (.int .i64 0))) fun _ =>
 M.pure [a0, a1, a2, .undef, .undef, .undef, t6_0, t7_1, t8_2, t9_3, t24_19, (strip a1), t12_4, (strip t12_4), t14_5, t15_6, t16_7, t17_8, t18_9, .undef, t20_17, (strip a0), (strip a1), t23_18, (strip t24_19), (strip a2), (strip t24_19), (strip t27_20), (strip t28_42), t29_38, t30_39, t31_40, (strip t32_41)])
 (M.bind (noPan (M.pure (strip t24_19))) fun t29_22 =>
 M.bind (noPan (nc P t29_22)) fun t30_23 =>
 M.bind (noPan (fa 1 t30_23)) fun t31_24 =>
 M.bind (noPan (ld (some 2) true t6_0)) fun t28_25 =>
 M.bind (noPan (ld none true t31_24)) fun t32_26 =>
 M.bind (noPan (st 2 true t6_0 t28_25)) fun _ =>
 M.bind (noPan (st 1 true t7_1 t32_26)) fun _ =>
 M.bind (noPan (st 1 false t8_2 (.int .i64 0))) fun _ =>
 M.pure [a0, a1, a2, .undef, .undef, .undef, t6_0, t7_1, t8_2, t9_3, t24_19, (strip a1), t12_4, (strip t12_4), t14_5, t15_6, t16_7, t17_8, t18_9, .undef, t20_17, (strip a0), (strip a1), t23_18, (strip t24_19), (strip a2), (strip t24_19), (strip t27_20), (strip t28_25), t29_22, t30_23, t31_24, (strip t32_26)]) <|
 M.bind (noPan (M.pure (strip t24_19))) fun t29_46 =>
 M.bind (noPan (nc P t29_46)) fun t30_47 =>
 M.bind (noPan (fa 1 t30_47)) fun t31_48 =>
 M.bind (noPan (ld (some 2) true t6_0)) fun t28_49 =>
 M.bind (noPan (ld none true t31_48)) fun t32_50 =>
 M.bind (noPan (st 2 true t6_0 t28_49)) fun _ =>
 M.bind (noPan (st 1 true t7_1 t32_50)) fun _ =>
 M.bind (noPan (st 1 false t8_2 (.int .i64 0))) fun _ =>
 M.bind (ld (some 2) true t6_0) fun t0_54 => guardM (!isTup t0_54) (M.bind (ld none true t7_1) fun t0_55 => guardM (!isTup t0_55) (M.bind (ld none true t8_2) fun t0_56 => guardM (!isTup t0_56) (M.pure (.tup [t0_54, t0_55, t0_56])))))
 (M.bind (ld (some 2) true t6_0) fun t0_57 => guardM (!isTup t0_57) (M.bind (ld none true t7_1) fun t0_58 => guardM (!isTup t0_58) (M.bind (ld none true t8_2) fun t0_59 => guardM (!isTup t0_59) (M.pure (.tup [t0_57, t0_58, t0_59]))))))) := by
 rw [C, u00 _ _ rfl]; kernel_rfl
theorem ucs (a0 : PV) : C u3x [a0] =
 trunc (M.bind (al [(.slice false true 0 []), (.bool false)]) fun t2_0 =>
 M.bind (C u0h [(strip (strip a0))]) fun t4_1 =>
 M.bind (bi .neq .none t4_1 (.int .u8 78)) fun t5_2 =>
 condM t5_2
 (M.bind (C u2r [(strip (strip a0))]) fun t7_3 =>
 M.bind (bs true (some 6) [t7_3]) fun t8_4 =>
 M.bind (bd [(.slice false true 0 []), (.bool false)] [(0, 1, t8_4)]) fun t9_5 =>
 M.bind (st 2 true t2_0 t9_5) fun _ =>
 M.bind (ld (some 2) true t2_0) fun t0_7 => guardM (!isTup t0_7) (M.pure t0_7))
 (M.bind (nc P (strip a0)) fun t11_8 =>
 M.bind (fa 1 t11_8) fun t12_9 =>
 M.bind (ld none false t12_9) fun t13_10 =>
 M.bind (bi .add .none t13_10 (.int .i64 1)) fun t14_11 =>
 M.bind (nc P (strip a0)) fun t15_12 =>
 M.bind (fa 1 t15_12) fun t16_13 =>
 M.bind (st 1 true t16_13 t14_11) fun _ =>
 M.bind (mf u2r [(strip a0)] []) fun t19_15 =>
 M.bind (C u1e [(strip (strip a0)), (.int .u32 10000), (strip t19_15)]) fun t20_16 =>
 M.bind (bd [(.slice false true 0 []), (.bool false)] [(1, 1, (.bool true)), (0, 1, t20_16)]) fun t21_17 =>
 M.bind (st 2 true t2_0 t21_17) fun _ =>
 M.bind (ld (some 2) true t2_0) fun t0_19 => guardM (!isTup t0_19) (M.pure t0_19))) := by
 rw [C, u00 _ _ rfl]; kernel_rfl
noncomputable def u1c (v2 v3 v4 v5 : PV) : M PV := atP P X u2e [1, 1, 0, 1, 0] (mkEnv 72 0 [(2, v2), (3, v3), (4, v4), (5, v5)])
theorem u4f (v2 v3 v4 v5 : PV) : u1c v2 v3 v4 v5 =
 M.bind (fa 1 v2) fun t30_0 =>
 M.bind (ld none false t30_0) fun t31_1 =>
 M.bind (lnL t31_1) fun t32_2 =>
 M.bind (bi .lss .none (strip v5) t32_2) fun t33_3 =>
 condM t33_3
 (nb (fa 1 v2) fun t36_4 =>
 nb (ld none false t36_4) fun t37_5 =>
 nb (iaS 1 t37_5 (strip v5)) fun t39_6 =>
 nb (ld none false t39_6) fun t40_7 =>
 nb (fa 1 v3) fun t41_8 =>
 nb (ld none false t41_8) fun t42_9 =>
 nb (iaS 1 t42_9 (strip v5)) fun t44_10 =>
 nb (ld none false t44_10) fun t45_11 =>
 nb (bi .neq .none t40_7 t45_11) fun t46_12 =>
 condM t46_12
 (M.pure (.bool false))
 (M.bind (bi .add .none (strip v5) (.int .i64 1)) fun t35_13 =>
 u1c v2 v3 v4 t35_13))
 (M.bind (fa 2 v2) fun t47_14 =>
 M.bind (fa 1 t47_14) fun t48_15 =>
 M.bind (ld none false t48_15) fun t49_16 =>
 M.bind (fa 2 v3) fun t50_17 =>
 M.bind (fa 1 t50_17) fun t51_18 =>
 M.bind (ld none false t51_18) fun t52_19 =>
 M.bind (C u29 [(strip t49_16), (strip t52_19)]) fun t53_20 =>
 M.bind (gd (strip t53_20) true (fa 2 v2)) fun t55_21 =>
 M.bind (gd (strip t53_20) true (fa 2 t55_21)) fun t56_22 =>
 M.bind (gd (strip t53_20) true (ld none false t56_22)) fun t57_23 =>
 M.bind (gd (strip t53_20) true (fa 2 v3)) fun t58_24 =>
 M.bind (gd (strip t53_20) true (fa 2 t58_24)) fun t59_25 =>
 M.bind (gd (strip t53_20) true (ld none false t59_25)) fun t60_26 =>
 M.bind (gd (strip t53_20) true (C u29 [(strip t57_23), (strip t60_26)])) fun t61_27 =>
 M.bind (pick (strip t53_20) t61_27 (.bool false)) fun t62_28 =>
 M.bind (gd (strip t62_28) true (fa 2 v2)) fun t64_29 =>
 M.bind (gd (strip t62_28) true (fa 3 t64_29)) fun t65_30 =>
 M.bind (gd (strip t62_28) true (ld none false t65_30)) fun t66_31 =>
 M.bind (gd (strip t62_28) true (fa 2 v3)) fun t67_32 =>
 M.bind (gd (strip t62_28) true (fa 3 t67_32)) fun t68_33 =>
 M.bind (gd (strip t62_28) true (ld none false t68_33)) fun t69_34 =>
 M.bind (gd (strip t62_28) true (C u2j [(strip t66_31), (strip t69_34)])) fun t70_35 =>
 M.bind (pick (strip t62_28) t70_35 (.bool false)) fun t71_36 =>
 resT t71_36 (M.pure t71_36)) :=
 (u05 P X _ _ _).trans (by kernel_rfl)
theorem u9z (a0 a1 : PV) : C u2e [a0, a1] =
 trunc (M.bind (bx 6 a0) fun t2_0 =>
 M.bind (bx 6 a1) fun t3_1 =>
 M.bind (fa 0 t2_0) fun t6_2 =>
 M.bind (ld none false t6_2) fun t7_3 =>
 M.bind (fa 0 t3_1) fun t8_4 =>
 M.bind (ld none false t8_4) fun t9_5 =>
 M.bind (bi .neq .bool t7_3 t9_5) fun t10_6 =>
 M.bind (gd (strip t10_6) false (fa 1 t2_0)) fun t12_7 =>
 M.bind (gd (strip t10_6) false (ld none false t12_7)) fun t13_8 =>
 M.bind (gd (strip t10_6) false (lnL t13_8)) fun t14_9 =>
 M.bind (gd (strip t10_6) false (fa 1 t3_1)) fun t15_10 =>
 M.bind (gd (strip t10_6) false (ld none false t15_10)) fun t16_11 =>
 M.bind (gd (strip t10_6) false (lnL t16_11)) fun t17_12 =>
 M.bind (gd (strip t10_6) false (bi .neq .none t14_9 t17_12)) fun t18_13 =>
 M.bind (pick (strip t10_6) (.bool true) t18_13) fun t19_14 =>
 M.bind (gd (strip t19_14) false (fa 2 t2_0)) fun t21_15 =>
 M.bind (gd (strip t19_14) false (fa 0 t21_15)) fun t22_16 =>
 M.bind (gd (strip t19_14) false (ld none false t22_16)) fun t23_17 =>
 M.bind (gd (strip t19_14) false (fa 2 t3_1)) fun t24_18 =>
 M.bind (gd (strip t19_14) false (fa 0 t24_18)) fun t25_19 =>
 M.bind (gd (strip t19_14) false (ld none false t25_19)) fun t26_20 =>
 M.bind (gd (strip t19_14) false (bi .neq .none t23_17 t26_20)) fun t27_21 =>
 M.bind (pick (strip t19_14) (.bool true) t27_21) fun t28_22 =>
 condM t28_22
 (M.pure (.bool false))
 (u1c t2_0 t3_1 (.bool false) (.int .i64 0))) := by
 rw [C, u00 _ _ rfl]; kernel_rfl
theorem ubu (a0 a1 : PV) : C u4n [a0, a1] =
 trunc (M.bind (fa 0 a1) fun t4_0 =>
 M.bind (ld none false t4_0) fun t5_1 =>
 M.bind (C u4w [(strip (strip a0)), (strip t5_1)]) fun t6_2 =>
 M.bind (fa 1 a1) fun t8_3 =>
 M.bind (ld none false t8_3) fun t9_4 =>
 M.bind (C u4w [(strip (strip a0)), (strip t9_4)]) fun t10_5 =>
 M.bind (fa 2 a1) fun t12_6 =>
 M.bind (ld (some 17) false t12_6) fun t13_7 =>
 M.bind (C u3w [(strip (strip a0)), (strip t13_7)]) fun t14_8 =>
 M.pure (.tup [])) := by
 rw [C, u00 _ _ rfl]; kernel_rfl
noncomputable def u6a (v0 v4 : PV) : M PV := atP P X u4w [1, 1] (mkEnv 25 0 [(0, v0), (4, v4)])
theorem uag (v0 v4 : PV) : u6a v0 v4 =
 M.bind (nc P (strip v0)) fun t18_0 =>
 M.bind (fa 0 t18_0) fun t19_1 =>
 M.bind (ld none true t19_1) fun t20_2 =>
 M.bind (ap true 1 1 t20_2 (strip v4)) fun t22_3 =>
 M.bind (nc P (strip v0)) fun t23_4 =>
 M.bind (fa 0 t23_4) fun t24_5 =>
 M.bind (st 1 true t24_5 t22_3) fun _ =>
 M.pure (.tup []) :=
 (u05 P X _ _ _).trans (by kernel_rfl)
theorem uea (a0 a1 : PV) : C u4w [a0, a1] =
 trunc (M.bind (C u49 [(strip (strip a1))]) fun t8_0 =>
 M.bind (ex 0 t8_0) fun t9_1 =>
 M.bind (ex 1 (tupDrop 0 t8_0)) fun t10_2 =>
 M.bind (bi .neq .none (strip t10_2) (.int .i64 0)) fun t12_3 =>
 condM t12_3
 (M.bind (bd [(.int .i64 0), (.int .i64 0)] [(0, 1, (.int .i64 0)), (1, 1, (strip t10_2))]) fun t14_4 =>
 M.bind (mi u02 t14_4) fun t15_5 =>
 M.bind (pn t15_5) fun _ =>
 u6a a0 t9_1)
 (u6a a0 t9_1)) := by
 rw [C, u00 _ _ rfl]; kernel_rfl
end Go.Proofs.YthnmienjiangkaaGreatDoor.Pi.Q
namespace Go.Proofs.YthnmienjiangkaaGreatDoor.Pi.Q
open Go Go.Proofs.YthnmienjiangkaaGreatDoor.Pi
noncomputable def u40 (v0 v3 v4 v9 v12 : PV) : M PV := atP P X u3w [1, 1, 0, 1, 0, 1] (mkEnv 73 0 [(0, v0), (3, v3), (4, v4), (9, v9), (12, v12)])
noncomputable def u1t (v0 v3 v4 : PV) : M PV := atP P X u3w [1, 1, 1] (mkEnv 73 0 [(0, v0), (3, v3), (4, v4)])
theorem u0z (v0 v3 v4 v9 v12 : PV) : u40 v0 v3 v4 v9 v12 =
 condM v12
 (M.bind (fa 1 v3) fun t15_0 =>
 M.bind (ld none true t15_0) fun t16_1 =>
 M.bind (fa 1 v4) fun t17_2 =>
 M.bind (st 1 true t17_2 t16_1) fun _ =>
 u1t v0 v3 v4)
 (M.bind (bi .eql .none v9 (.int .i64 1)) fun t19_4 =>
 condM t19_4
 (M.bind (fa 2 v3) fun t20_5 =>
 M.bind (ld (some 7) true t20_5) fun t21_6 =>
 M.bind (fa 2 v4) fun t22_7 =>
 M.bind (st 7 true t22_7 t21_6) fun _ =>
 u1t v0 v3 v4)
 (M.bind (bi .eql .none v9 (.int .i64 2)) fun t24_9 =>
 condM t24_9
 (M.bind (fa 9 v3) fun t25_10 =>
 M.bind (ld (some 4) true t25_10) fun t26_11 =>
 M.bind (fa 9 v4) fun t27_12 =>
 M.bind (st 4 true t27_12 t26_11) fun _ =>
 u1t v0 v3 v4)
 (M.bind (bi .eql .none v9 (.int .i64 3)) fun t29_14 =>
 condM t29_14
 (M.bind (fa 13 v3) fun t30_15 =>
 M.bind (ld (some 4) true t30_15) fun t31_16 =>
 M.bind (fa 13 v4) fun t32_17 =>
 M.bind (st 4 true t32_17 t31_16) fun _ =>
 u1t v0 v3 v4)
 (M.bind (C u0f [(strip (strip v0)), (.bool false)]) fun t11_19 =>
 u1t v0 v3 v4)))) :=
 (u05 P X _ _ _).trans (by kernel_rfl)
theorem u1y (v0 v3 v4 : PV) : u1t v0 v3 v4 =
 M.bind (ld (some 17) false v3) fun t34_0 =>
 M.bind (ld (some 17) false v4) fun t35_1 =>
 M.bind (bi .eql (.struct [.int, .int, .int, .bool, .int, .bool, .int, .int, .bool, .bool, .int, .int, .bool, .int, .bool, .int, .bool]) t34_0 t35_1) fun t36_2 =>
 M.bind (C u0f [(strip (strip v0)), (strip t36_2)]) fun t37_3 =>
 M.bind (fa 0 v3) fun t39_4 =>
 M.bind (ld none false t39_4) fun t40_5 =>
 M.bind (cv (.int .u8) true t40_5) fun t41_6 =>
 M.bind (C u07 [(strip (strip v0)), (strip t41_6)]) fun t42_7 =>
 M.bind (fa 0 v3) fun t43_8 =>
 M.bind (ld none false t43_8) fun t44_9 =>
 M.bind (bi .eql .none t44_9 (.int .i64 0)) fun t50_10 =>
 condM t50_10
 (M.bind (fa 1 v3) fun t52_11 =>
 M.bind (ld none false t52_11) fun t53_12 =>
 M.bind (C u3a [(strip (strip v0)), (strip t53_12)]) fun t54_13 =>
 M.pure (.tup []))
 (M.bind (bi .eql .none t44_9 (.int .i64 1)) fun t56_14 =>
 condM t56_14
 (M.bind (fa 2 v3) fun t58_15 =>
 M.bind (ld (some 7) false t58_15) fun t59_16 =>
 M.bind (C u75 [(strip (strip v0)), (strip t59_16)]) fun t60_17 =>
 M.pure (.tup []))
 (M.bind (bi .eql .none t44_9 (.int .i64 2)) fun t62_18 =>
 condM t62_18
 (M.bind (fa 9 v3) fun t64_19 =>
 M.bind (ld (some 4) false t64_19) fun t65_20 =>
 M.bind (C u2n [(strip (strip v0)), (strip t65_20)]) fun t66_21 =>
 M.pure (.tup []))
 (M.bind (bi .eql .none t44_9 (.int .i64 3)) fun t68_22 =>
 condM t68_22
 (M.bind (fa 13 v3) fun t70_23 =>
 M.bind (ld (some 4) false t70_23) fun t71_24 =>
 M.bind (C u6p [(strip (strip v0)), (strip t71_24)]) fun t72_25 =>
 M.pure (.tup []))
 (M.bind (fa 1 v3) fun t46_26 =>
 M.bind (ld none false t46_26) fun t47_27 =>
 M.bind (C u87 [(strip (strip v0)), (strip t47_27)]) fun t48_28 =>
 M.pure (.tup []))))) :=
 (u05 P X _ _ _).trans (by kernel_rfl)
theorem ucq (a0 a1 : PV) : C u3w [a0, a1] =
 trunc (M.bind (bx 17 a1) fun t3_0 =>
 M.bind (fa 0 t3_0) fun t5_1 =>
 M.bind (ld none false t5_1) fun t6_2 =>
 M.bind (bd [(.int .i64 0), (.int .i64 0), (.int .i64 0), (.bool false), (.int .i64 0), (.bool false), (.int .u64 0), (.int .u64 0), (.bool false), (.bool false), (.int .u64 0), (.int .u64 0), (.bool false), (.int .i64 0), (.bool false), (.int .i64 0), (.bool false)] [(0, 1, t6_2)]) fun t7_3 =>
 M.bind (al [(.int .i64 0), (.int .i64 0), (.int .i64 0), (.bool false), (.int .i64 0), (.bool false), (.int .u64 0), (.int .u64 0), (.bool false), (.bool false), (.int .u64 0), (.int .u64 0), (.bool false), (.int .i64 0), (.bool false), (.int .i64 0), (.bool false)]) fun t4_4 =>
 M.bind (st 17 true t4_4 t7_3) fun _ =>
 M.bind (fa 0 t3_0) fun t8_6 =>
 M.bind (ld none false t8_6) fun t9_7 =>
 M.bind (bi .eql .none t9_7 (.int .i64 0)) fun t13_8 =>
 condM t13_8
 (u40 a0 t3_0 t4_4 t9_7 t13_8)
 (M.bind (bi .eql .none t9_7 (.int .i64 4)) fun t14_9 =>
 u40 a0 t3_0 t4_4 t9_7 t14_9)) := by
 rw [C, u00 _ _ rfl]; kernel_rfl
noncomputable def u4h (v0 v4 v5 : PV) : M PV := atP P X u0c [1, 1, 1] (mkEnv 25 0 [(0, v0), (4, v4), (5, v5)])
theorem u86 (v0 v4 v5 : PV) : u4h v0 v4 v5 =
 M.bind (nc P (strip v0)) fun t18_0 =>
 M.bind (fa 1 t18_0) fun t19_1 =>
 M.bind (ld none false t19_1) fun t20_2 =>
 M.bind (bi .add .none t20_2 (.int .i64 1)) fun t21_3 =>
 M.bind (nc P (strip v0)) fun t22_4 =>
 M.bind (fa 1 t22_4) fun t23_5 =>
 M.bind (st 1 true t23_5 t21_3) fun _ =>
 resT v5 (M.pure v5) :=
 (u05 P X _ _ _).trans (by kernel_rfl)
theorem uau (a0 a1 : PV) : C u0c [a0, a1] =
 trunc (M.bind (C u0h [(strip (strip a0))]) fun t7_0 =>
 M.bind (bi .gtr .none (strip t7_0) (strip a1)) fun t10_1 =>
 condM t10_1
 (M.bind (nc P (strip a0)) fun t13_2 =>
 M.bind (fa 1 t13_2) fun t14_3 =>
 M.bind (ld none false t14_3) fun t15_4 =>
 M.bind (C u04 [(strip (strip a0)), (strip t15_4), (.int .i64 4)]) fun t16_5 =>
 u4h a0 (.int .u8 0) t7_0)
 (u4h a0 (.int .u8 0) t7_0)) := by
 rw [C, u00 _ _ rfl]; kernel_rfl
theorem uby (a0 a1 a2 : PV) : C u04 [a0, a1, a2] =
 trunc (M.bind (bd [(.int .i64 0), (.int .i64 0)] [(0, 1, (strip a1)), (1, 1, (strip a2))]) fun t8_0 =>
 M.bind (mi u02 t8_0) fun t9_1 =>
 M.bind (pn t9_1) fun _ =>
 M.pure (.tup [])) := by
 rw [C, u00 _ _ rfl]; kernel_rfl
theorem u9p (a0 a1 : PV) : C u0j [a0, a1] =
 trunc (M.bind (fa 0 a0) fun t3_0 =>
 M.bind (ld none false t3_0) fun t4_1 =>
 condM t4_1
 (M.bind (ld none false a1) fun t5_2 =>
 M.bind (C u6y [(strip t5_2)]) fun t6_3 =>
 resT t6_3 (M.pure t6_3))
 (M.bind (ld none false a1) fun t7_4 =>
 M.bind (C u1r [(strip t7_4)]) fun t8_5 =>
 M.bind (cv (.int .u64) true t8_5) fun t9_6 =>
 resT t9_6 (M.pure t9_6))) := by
 rw [C, u00 _ _ rfl]; kernel_rfl
theorem ud6 (a0 : PV) : C u6y [a0] =
 trunc (M.bind (noPan (M.pure (strip a0))) fun t7_21 =>
 M.bind (noPan (nc P t7_21)) fun t8_22 =>
 M.bind (noPan (fa 0 t8_22)) fun t9_23 =>
 M.bind (noPan (M.pure (strip a0))) fun t11_24 =>
 M.bind (noPan (nc P t11_24)) fun t12_25 =>
 M.bind (noPan (fa 1 t12_25)) fun t13_26 =>
 M.bind (noPan (M.pure (strip a0))) fun t15_27 =>
 M.bind (noPan (nc P t15_27)) fun t16_28 =>
 M.bind (noPan (fa 0 t16_28)) fun t17_29 =>
 M.bind (noPan (ld none false t9_23)) fun t10_30 =>
 M.bind (noPan (ld none false t13_26)) fun t14_31 =>
 M.bind (noPan (ld none false t17_29)) fun t18_32 =>
 M.bind (noPan (lnL t18_32)) fun t19_33 =>
 M.bind (noPan (C ugg [(strip t10_30), (strip t14_31), (strip t19_33)])) fun t20_34 =>
 M.bind (noPan (M.pure t20_34)) fun t6_35 =>
 M.bind (noPan (ex 0 t6_35)) fun t21_36 =>
 M.bind (noPan (ex 1 (tupDrop 0 t6_35))) fun t22_37 =>
 M.bind (noPan (ex 2 (tupDrop 1 (tupDrop 0 t6_35)))) fun t23_38 =>
 M.bind (noPan (M.pure t21_36)) fun t3_39 =>
 M.bind (noPan (M.pure t22_37)) fun t4_40 =>
 M.bind (noPan (M.pure t23_38)) fun t5_41 =>
 M.bind (C u3u [(strip (strip a0)), (strip (strip t3_39)), (strip (strip t4_40)), (strip (strip t5_41))]) fun t28_42 =>
 resT t28_42 (M.pure t28_42)) := by
 rw [C, u00 _ _ rfl]; kernel_rfl
theorem ucy (a0 : PV) : C u1r [a0] =
 trunc (M.bind (noPan (M.pure (strip a0))) fun t7_21 =>
 M.bind (noPan (nc P t7_21)) fun t8_22 =>
 M.bind (noPan (fa 0 t8_22)) fun t9_23 =>
 M.bind (noPan (M.pure (strip a0))) fun t11_24 =>
 M.bind (noPan (nc P t11_24)) fun t12_25 =>
 M.bind (noPan (fa 1 t12_25)) fun t13_26 =>
 M.bind (noPan (M.pure (strip a0))) fun t15_27 =>
 M.bind (noPan (nc P t15_27)) fun t16_28 =>
 M.bind (noPan (fa 0 t16_28)) fun t17_29 =>
 M.bind (noPan (ld none false t9_23)) fun t10_30 =>
 M.bind (noPan (ld none false t13_26)) fun t14_31 =>
 M.bind (noPan (ld none false t17_29)) fun t18_32 =>
 M.bind (noPan (lnL t18_32)) fun t19_33 =>
 M.bind (noPan (C udb [(strip t10_30), (strip t14_31), (strip t19_33)])) fun t20_34 =>
 M.bind (noPan (M.pure t20_34)) fun t6_35 =>
 M.bind (noPan (ex 0 t6_35)) fun t21_36 =>
 M.bind (noPan (ex 1 (tupDrop 0 t6_35))) fun t22_37 =>
 M.bind (noPan (ex 2 (tupDrop 1 (tupDrop 0 t6_35)))) fun t23_38 =>
 M.bind (noPan (M.pure t21_36)) fun t3_39 =>
 M.bind (noPan (M.pure t22_37)) fun t4_40 =>
 M.bind (noPan (M.pure t23_38)) fun t5_41 =>
 M.bind (C u3s [(strip (strip a0)), (strip (strip t3_39)), (strip (strip t4_40)), (strip (strip t5_41))]) fun t28_42 =>
 resT t28_42 (M.pure t28_42)) := by
 rw [C, u00 _ _ rfl]; kernel_rfl
noncomputable def u33 (v0 v2 v3 : PV) : M PV := atP P X u2q [1, 1, 1, 1] (mkEnv 44 0 [(0, v0), (2, v2), (3, v3)])
theorem u5s (v0 v2 v3 : PV) : u33 v0 v2 v3 =
 M.bind (nc P (strip v0)) fun t33_0 =>
 M.bind (fa 1 t33_0) fun t34_1 =>
 M.bind (ld none false t34_1) fun t35_2 =>
 M.bind (bi .add .none t35_2 (.int .i64 1)) fun t36_3 =>
 M.bind (nc P (strip v0)) fun t37_4 =>
 M.bind (fa 1 t37_4) fun t38_5 =>
 M.bind (st 1 true t38_5 t36_3) fun _ =>
 M.bind (bi .eql .none (strip v3) (.int .u8 99)) fun t40_7 =>
 M.bind (C u6b [(strip (strip v0))]) fun t42_8 =>
 M.bind (bd [(.int .i64 0), (.bool false), (.int .i64 0)] [(0, 1, (.int .i64 5)), (1, 1, t40_7), (2, 1, t42_8)]) fun t43_9 =>
 M.bind (st 3 true v2 t43_9) fun _ =>
 M.bind (ld (some 3) true v2) fun t0_11 => guardM (!isTup t0_11) (M.pure t0_11) :=
 (u05 P X _ _ _).trans (by kernel_rfl)
theorem uce (a0 : PV) : C u2q [a0] =
 trunc (M.bind (al [(.int .i64 0), (.bool false), (.int .i64 0)]) fun t2_0 =>
 M.bind (C u0h [(strip (strip a0))]) fun t6_1 =>
 M.bind (C u7x [(strip (strip t6_1))]) fun t8_2 =>
 M.bind (bi .neq .none (strip t8_2) (.int .i64 0)) fun t10_3 =>
 condM t10_3
 (M.bind (nc P (strip a0)) fun t12_4 =>
 M.bind (fa 1 t12_4) fun t13_5 =>
 M.bind (ld none false t13_5) fun t14_6 =>
 M.bind (bi .add .none t14_6 (.int .i64 1)) fun t15_7 =>
 M.bind (nc P (strip a0)) fun t16_8 =>
 M.bind (fa 1 t16_8) fun t17_9 =>
 M.bind (st 1 true t17_9 t15_7) fun _ =>
 M.bind (bd [(.int .i64 0), (.bool false), (.int .i64 0)] [(0, 1, (.int .i64 5)), (1, 1, (.bool true)), (2, 1, (strip t8_2))]) fun t19_11 =>
 M.bind (st 3 true t2_0 t19_11) fun _ =>
 M.bind (ld (some 3) true t2_0) fun t0_13 => guardM (!isTup t0_13) (M.pure t0_13))
 (M.bind (bi .neq .none (strip t6_1) (.int .u8 99)) fun t21_14 =>
 M.bind (gd (strip t21_14) true (M.pure (strip t6_1))) fun t23_15 =>
 M.bind (gd (strip t21_14) true (bi .neq .none t23_15 (.int .u8 100))) fun t24_16 =>
 M.bind (pick (strip t21_14) t24_16 (.bool false)) fun t25_17 =>
 condM t25_17
 (M.bind (nc P (strip a0)) fun t28_18 =>
 M.bind (fa 1 t28_18) fun t29_19 =>
 M.bind (ld none false t29_19) fun t30_20 =>
 M.bind (C u04 [(strip (strip a0)), (strip t30_20), (.int .i64 4)]) fun t31_21 =>
 u33 a0 t2_0 t6_1)
 (u33 a0 t2_0 t6_1))) := by
 rw [C, u00 _ _ rfl]; kernel_rfl
noncomputable def u52 (v0 v2 : PV) : M PV := atP P X u0x [1, 1, 1] (mkEnv 35 0 [(0, v0), (2, v2)])
theorem u5y (v0 v2 : PV) : u52 v0 v2 =
 M.bind (C u2q [(strip (strip v0))]) fun t34_0 =>
 M.bind (st 3 true v2 t34_0) fun _ =>
 M.bind (ld (some 3) true v2) fun t0_2 => guardM (!isTup t0_2) (M.pure t0_2) :=
 (u05 P X _ _ _).trans (by kernel_rfl)
theorem ucn (a0 : PV) : C u0x [a0] =
 trunc (M.bind (al [(.int .i64 0), (.bool false), (.int .i64 0)]) fun t2_0 =>
 M.bind (C u0h [(strip (strip a0))]) fun t5_1 =>
 M.bind (bi .eql .none (strip t5_1) (.int .u8 123)) fun t8_2 =>
 condM t8_2
 (M.bind (nc P (strip a0)) fun t11_3 =>
 M.bind (fa 1 t11_3) fun t12_4 =>
 M.bind (ld none false t12_4) fun t13_5 =>
 M.bind (C u04 [(strip (strip a0)), (strip t13_5), (.int .i64 8)]) fun t14_6 =>
 u52 a0 t2_0)
 (M.bind (bi .geq .none (strip t5_1) (.int .u8 124)) fun t17_7 =>
 M.bind (gd (strip t17_7) true (M.pure (strip t5_1))) fun t19_8 =>
 M.bind (gd (strip t17_7) true (bi .leq .none t19_8 (.int .u8 127))) fun t20_9 =>
 M.bind (pick (strip t17_7) t20_9 (.bool false)) fun t21_10 =>
 condM t21_10
 (M.bind (nc P (strip a0)) fun t23_11 =>
 M.bind (fa 1 t23_11) fun t24_12 =>
 M.bind (ld none false t24_12) fun t25_13 =>
 M.bind (bi .add .none t25_13 (.int .i64 1)) fun t26_14 =>
 M.bind (nc P (strip a0)) fun t27_15 =>
 M.bind (fa 1 t27_15) fun t28_16 =>
 M.bind (st 1 true t28_16 t26_14) fun _ =>
 M.bind (cv (.int .i64) true (strip t5_1)) fun t30_18 =>
 M.bind (bi .sub .none (.int .i64 128) t30_18) fun t31_19 =>
 M.bind (bd [(.int .i64 0), (.bool false), (.int .i64 0)] [(0, 1, t31_19)]) fun t32_20 =>
 M.bind (st 3 true t2_0 t32_20) fun _ =>
 M.bind (ld (some 3) true t2_0) fun t0_22 => guardM (!isTup t0_22) (M.pure t0_22))
 (u52 a0 t2_0))) := by
 rw [C, u00 _ _ rfl]; kernel_rfl
noncomputable def u41 (v2 v4 : PV) : M PV := atP P X u11 [1, 1, 1, 1] (mkEnv 18 0 [(2, v2), (4, v4)])
theorem u80 (v2 v4 : PV) : u41 v2 v4 =
 M.bind (cv (.int .i64) true (strip v4)) fun t17_0 =>
 resT t17_0 (M.pure t17_0) :=
 (u05 P X _ _ _).trans (by kernel_rfl)
theorem ub1 (a0 : PV) : C u11 [a0] =
 trunc (M.bind (nc P (strip a0)) fun t6_0 =>
 M.bind (fa 1 t6_0) fun t7_1 =>
 M.bind (ld none true t7_1) fun t8_2 =>
 M.bind (C u1r [(strip (strip a0))]) fun t10_3 =>
 M.bind (bi .gtr .none (strip t10_3) (.int .u32 2147483647)) fun t12_4 =>
 condM t12_4
 (M.bind (C u04 [(strip (strip a0)), (strip (strip t8_2)), (.int .i64 2)]) fun t15_5 =>
 u41 (.int .i64 0) t10_3)
 (u41 (.int .i64 0) t10_3)) := by
 rw [C, u00 _ _ rfl]; kernel_rfl
theorem u8m (a0 a1 a2 a3 : PV) : CD none u3y [a0, a1, a2, a3] =
 noPan (trunc (M.bind (M.pure .niliface) fun t6_0 =>
 M.bind (bi .neq .iface (strip t6_0) .niliface) fun t8_1 =>
 condM t8_1
 (M.bind (ta u02 (.agg [(.int .i64 0), (.int .i64 0)]) false (strip t6_0)) fun t10_2 =>
 M.bind (al [(.int .i64 0), (.int .i64 0)]) fun t5_3 =>
 M.bind (st 2 true t5_3 t10_2) fun _ =>
 nb (ld (some 19) true a0) fun t11_5 =>
 nb (fa 0 t5_3) fun t12_6 =>
 guardM (!clash (tld t12_6) (tld a0) && true) <| nb (ld none true t12_6) fun t13_7 =>
 nb (fa 1 t5_3) fun t14_8 =>
 guardM (!clash (tld t14_8) (tld t12_6) && (!clash (tld t14_8) (.no) && (!clash (tld t14_8) (tld a0) && true))) <| nb (ld none true t14_8) fun t15_9 =>
 guardM (!clash (tst a1) (tld t14_8) && (!clash (tst a1) (.no) && (!clash (tst a1) (tld t12_6) && (!clash (tst a1) (.no) && true)))) <| M.bind (noPan (st 19 true a1 t11_5)) fun _ =>
 guardM (!clash (tst a2) (tld t14_8) && (!clash (tst a2) (.no) && true)) <| M.bind (noPan (st 1 true a2 t13_7)) fun _ =>
 M.bind (noPan (st 1 true a3 t15_9)) fun _ =>
 M.pure (.tup []))
 (M.pure (.tup [])))) := by
 rw [CD, u7g]; kernel_rfl
theorem u8g (r : PV) (a0 a1 a2 a3 : PV) : CD (some r) u3y [a0, a1, a2, a3] =
 noPan (trunc (M.bind (M.pure r) fun t6_0 =>
 M.bind (bi .neq .iface (strip t6_0) .niliface) fun t8_1 =>
 condM t8_1
 (M.bind (ta u02 (.agg [(.int .i64 0), (.int .i64 0)]) false (strip t6_0)) fun t10_2 =>
 M.bind (al [(.int .i64 0), (.int .i64 0)]) fun t5_3 =>
 M.bind (st 2 true t5_3 t10_2) fun _ =>
 nb (ld (some 19) true a0) fun t11_5 =>
 nb (fa 0 t5_3) fun t12_6 =>
 guardM (!clash (tld t12_6) (tld a0) && true) <| nb (ld none true t12_6) fun t13_7 =>
 nb (fa 1 t5_3) fun t14_8 =>
 guardM (!clash (tld t14_8) (tld t12_6) && (!clash (tld t14_8) (.no) && (!clash (tld t14_8) (tld a0) && true))) <| nb (ld none true t14_8) fun t15_9 =>
 guardM (!clash (tst a1) (tld t14_8) && (!clash (tst a1) (.no) && (!clash (tst a1) (tld t12_6) && (!clash (tst a1) (.no) && true)))) <| M.bind (noPan (st 19 true a1 t11_5)) fun _ =>
 guardM (!clash (tst a2) (tld t14_8) && (!clash (tst a2) (.no) && true)) <| M.bind (noPan (st 1 true a2 t13_7)) fun _ =>
 M.bind (noPan (st 1 true a3 t15_9)) fun _ =>
 M.pure (.tup []))
 (M.pure (.tup [])))) := by
 rw [CD, u7g]; kernel_rfl
theorem ubt (a0 : PV) : C u3c [a0] =
 trunc (M.bind (noPan (M.pure (strip a0))) fun t7_16 =>
 M.bind (noPan (nc P t7_16)) fun t8_17 =>
 M.bind (noPan (fa 0 t8_17)) fun t9_18 =>
 M.bind (noPan (M.pure (strip a0))) fun t11_19 =>
 M.bind (noPan (nc P t11_19)) fun t12_20 =>
 M.bind (noPan (fa 1 t12_20)) fun t13_21 =>
 M.bind (noPan (ld none false t9_18)) fun t10_22 =>
 M.bind (noPan (ld none false t13_21)) fun t14_23 =>
 M.bind (noPan (C uah [(strip t10_22), (strip t14_23)])) fun t15_24 =>
 M.bind (noPan (M.pure t15_24)) fun t6_25 =>
 M.bind (noPan (ex 0 t6_25)) fun t16_26 =>
 M.bind (noPan (ex 1 (tupDrop 0 t6_25))) fun t17_27 =>
 M.bind (noPan (ex 2 (tupDrop 1 (tupDrop 0 t6_25)))) fun t18_28 =>
 M.bind (noPan (M.pure t16_26)) fun t3_29 =>
 M.bind (noPan (M.pure t17_27)) fun t4_30 =>
 M.bind (noPan (M.pure t18_28)) fun t5_31 =>
 M.bind (C u3v [(strip (strip a0)), (strip (strip t3_29)), (strip (strip t4_30)), (strip (strip t5_31))]) fun t23_32 =>
 resT t23_32 (M.pure t23_32)) := by
 rw [C, u00 _ _ rfl]; kernel_rfl
theorem uaz (a0 a1 : PV) : C u7t [a0, a1] =
 trunc (M.bind (ld (some 3) false a1) fun t4_0 =>
 M.bind (C u28 [(strip (strip a0)), (strip t4_0)]) fun t5_1 =>
 M.pure (.tup [])) := by
 rw [C, u00 _ _ rfl]; kernel_rfl
noncomputable def u4m (v0 v3 : PV) : M PV := atP P X u28 [1, 1, 1] (mkEnv 49 0 [(0, v0), (3, v3)])
theorem uaf (v0 v3 : PV) : u4m v0 v3 =
 M.bind (fa 2 v3) fun t46_0 =>
 M.bind (ld none false t46_0) fun t47_1 =>
 M.bind (C u67 [(strip (strip v0)), (strip t47_1)]) fun t48_2 =>
 M.pure (.tup []) :=
 (u05 P X _ _ _).trans (by kernel_rfl)
theorem uab (a0 a1 : PV) : C u28 [a0, a1] =
 trunc (M.bind (bx 3 a1) fun t3_0 =>
 M.bind (fa 0 t3_0) fun t4_1 =>
 M.bind (ld none false t4_1) fun t5_2 =>
 M.bind (bi .neq .none t5_2 (.int .i64 5)) fun t6_3 =>
 condM t6_3
 (M.bind (fa 0 t3_0) fun t8_4 =>
 M.bind (ld none false t8_4) fun t9_5 =>
 M.bind (bi .geq .none t9_5 (.int .i64 1)) fun t10_6 =>
 M.bind (gd (strip t10_6) true (fa 0 t3_0)) fun t12_7 =>
 M.bind (gd (strip t10_6) true (ld none false t12_7)) fun t13_8 =>
 M.bind (gd (strip t10_6) true (bi .leq .none t13_8 (.int .i64 4))) fun t14_9 =>
 M.bind (pick (strip t10_6) t14_9 (.bool false)) fun t15_10 =>
 M.bind (gd (strip t15_10) true (fa 1 t3_0)) fun t17_11 =>
 M.bind (gd (strip t15_10) true (ld none false t17_11)) fun t18_12 =>
 M.bind (gd (strip t15_10) true (un .not t18_12)) fun t19_13 =>
 M.bind (pick (strip t15_10) t19_13 (.bool false)) fun t20_14 =>
 M.bind (gd (strip t20_14) true (fa 2 t3_0)) fun t22_15 =>
 M.bind (gd (strip t20_14) true (ld none false t22_15)) fun t23_16 =>
 M.bind (gd (strip t20_14) true (bi .eql .none t23_16 (.int .i64 0))) fun t24_17 =>
 M.bind (pick (strip t20_14) t24_17 (.bool false)) fun t25_18 =>
 M.bind (C u0f [(strip (strip a0)), (strip t25_18)]) fun t26_19 =>
 M.bind (fa 0 t3_0) fun t28_20 =>
 M.bind (ld none false t28_20) fun t29_21 =>
 M.bind (cv (.int .u8) true t29_21) fun t30_22 =>
 M.bind (bi .sub .none (.int .u8 128) t30_22) fun t31_23 =>
 M.bind (C u07 [(strip (strip a0)), (strip t31_23)]) fun t32_24 =>
 M.pure (.tup []))
 (M.bind (fa 1 t3_0) fun t34_25 =>
 M.bind (ld none false t34_25) fun t35_26 =>
 M.bind (un .not t35_26) fun t36_27 =>
 condM t36_27
 (M.bind (C u07 [(strip (strip a0)), (.int .u8 100)]) fun t38_28 =>
 u4m a0 t3_0)
 (M.bind (fa 2 t3_0) fun t40_29 =>
 M.bind (ld none false t40_29) fun t41_30 =>
 M.bind (bi .geq .none t41_30 (.int .i64 0)) fun t42_31 =>
 condM t42_31
 (M.bind (C u07 [(strip (strip a0)), (.int .u8 99)]) fun t44_32 =>
 u4m a0 t3_0)
 (u4m a0 t3_0)))) := by
 rw [C, u00 _ _ rfl]; kernel_rfl
theorem u9g (a0 a1 : PV) : CD none u8d [a0, a1] =
 noPan (trunc (M.bind (M.pure .niliface) fun t3_0 =>
 M.bind (bi .neq .iface (strip t3_0) .niliface) fun t5_1 =>
 condM t5_1
 (nb (M.pure (strip t3_0)) fun t6_2 =>
 nb (ta u02 (.agg [(.int .i64 0), (.int .i64 0)]) false t6_2) fun t7_3 =>
 nb (fd 1 none t7_3) fun t8_4 =>
 guardM (!clash (tst a0) (.no) && (!clash (tst a0) (.no) && (!clash (tst a0) (.no) && true))) <| M.bind (noPan (st 1 false a0 (.slice false true 0 []))) fun _ =>
 M.bind (noPan (st 1 true a1 t8_4)) fun _ =>
 M.pure (.tup []))
 (M.pure (.tup [])))) := by
 rw [CD, u7g]; kernel_rfl
theorem uel (r : PV) (a0 a1 : PV) : CD (some r) u8d [a0, a1] =
 noPan (trunc (M.bind (M.pure r) fun t3_0 =>
 M.bind (bi .neq .iface (strip t3_0) .niliface) fun t5_1 =>
 condM t5_1
 (nb (M.pure (strip t3_0)) fun t6_2 =>
 nb (ta u02 (.agg [(.int .i64 0), (.int .i64 0)]) false t6_2) fun t7_3 =>
 nb (fd 1 none t7_3) fun t8_4 =>
 guardM (!clash (tst a0) (.no) && (!clash (tst a0) (.no) && (!clash (tst a0) (.no) && true))) <| M.bind (noPan (st 1 false a0 (.slice false true 0 []))) fun _ =>
 M.bind (noPan (st 1 true a1 t8_4)) fun _ =>
 M.pure (.tup []))
 (M.pure (.tup [])))) := by
 rw [CD, u7g]; kernel_rfl
theorem ue4 (a0 a1 : PV) : C u5z [a0, a1] =
 trunc (M.bind (bx 4 a1) fun t3_0 =>
 M.bind (fa 0 t3_0) fun t5_1 =>
 M.bind (ld none false t5_1) fun t6_2 =>
 M.bind (bi .eql .none t6_2 (.int .i64 1)) fun t7_3 =>
 M.bind (gd (strip t7_3) false (fa 1 t3_0)) fun t9_4 =>
 M.bind (gd (strip t7_3) false (ld none false t9_4)) fun t10_5 =>
 M.bind (gd (strip t7_3) false (lnL t10_5)) fun t11_6 =>
 M.bind (gd (strip t7_3) false (fa 2 t3_0)) fun t12_7 =>
 M.bind (gd (strip t7_3) false (ld none false t12_7)) fun t13_8 =>
 M.bind (gd (strip t7_3) false (lnL t13_8)) fun t14_9 =>
 M.bind (gd (strip t7_3) false (bi .add .none t11_6 t14_9)) fun t15_10 =>
 M.bind (gd (strip t7_3) false (bi .eql .none t15_10 (.int .i64 0))) fun t16_11 =>
 M.bind (pick (strip t7_3) (.bool true) t16_11) fun t17_12 =>
 M.bind (C u0f [(strip (strip a0)), (strip t17_12)]) fun t18_13 =>
 M.bind (fa 0 t3_0) fun t19_14 =>
 M.bind (ld none false t19_14) fun t20_15 =>
 M.bind (bi .eql .none t20_15 (.int .i64 1)) fun t24_16 =>
 condM t24_16
 (M.bind (fa 3 t3_0) fun t26_17 =>
 M.bind (ld none false t26_17) fun t27_18 =>
 M.bind (lnL t27_18) fun t28_19 =>
 M.bind (bi .eql .none t28_19 (.int .i64 0)) fun t29_20 =>
 M.bind (C u0f [(strip (strip a0)), (strip t29_20)]) fun t30_21 =>
 M.bind (C u07 [(strip (strip a0)), (.int .u8 96)]) fun t32_22 =>
 M.bind (fa 1 t3_0) fun t34_23 =>
 M.bind (ld none false t34_23) fun t35_24 =>
 M.bind (C u66 [(strip (strip a0)), (strip t35_24)]) fun t36_25 =>
 M.bind (fa 2 t3_0) fun t38_26 =>
 M.bind (ld none false t38_26) fun t39_27 =>
 M.bind (C u66 [(strip (strip a0)), (strip t39_27)]) fun t40_28 =>
 M.pure (.tup []))
 (M.bind (bi .eql .none t20_15 (.int .i64 2)) fun t42_29 =>
 condM t42_29
 (M.bind (C u07 [(strip (strip a0)), (.int .u8 95)]) fun t44_30 =>
 M.bind (fa 3 t3_0) fun t46_31 =>
 M.bind (ld none false t46_31) fun t47_32 =>
 M.bind (mf u39 [(strip a0)] []) fun t49_33 =>
 M.bind (C u2d [(strip (strip a0)), (strip t47_32), (.int .i64 10000), (strip t49_33)]) fun t50_34 =>
 M.pure (.tup []))
 (M.bind (bi .eql .none t20_15 (.int .i64 3)) fun t52_35 =>
 condM t52_35
 (M.bind (fa 3 t3_0) fun t54_36 =>
 M.bind (ld none false t54_36) fun t55_37 =>
 M.bind (lnL t55_37) fun t56_38 =>
 M.bind (bi .eql .none t56_38 (.int .i64 1)) fun t57_39 =>
 M.bind (C u0f [(strip (strip a0)), (strip t57_39)]) fun t58_40 =>
 M.bind (C u07 [(strip (strip a0)), (.int .u8 94)]) fun t60_41 =>
 M.bind (fa 3 t3_0) fun t62_42 =>
 M.bind (ld none false t62_42) fun t63_43 =>
 M.bind (iaS 4 t63_43 (.int .i64 0)) fun t64_44 =>
 M.bind (ld (some 4) false t64_44) fun t65_45 =>
 M.bind (C u39 [(strip (strip a0)), (strip t65_45)]) fun t66_46 =>
 M.pure (.tup []))
 (M.bind (C u0f [(strip (strip a0)), (.bool false)]) fun t22_47 =>
 M.pure (.tup []))))) := by
 rw [C, u00 _ _ rfl]; kernel_rfl
noncomputable def u6r (v0 v1 v3 : PV) : M PV := atP P X u4v [1] (mkEnv 31 0 [(0, v0), (1, v1), (3, v3)])
noncomputable def u2m (v3 v21 v22 v23 : PV) : M PV := atP P X u4v [1, 1, 1, 0] (mkEnv 31 0 [(3, v3), (21, v21), (22, v22), (23, v23)])
theorem uaq (v0 v1 v3 : PV) : u6r v0 v1 v3 =
 M.bind (lnL (strip v1)) fun t18_0 =>
 M.bind (cv (.int .u64) true t18_0) fun t19_1 =>
 M.bind (C u36 [(strip (strip v0)), (strip t19_1)]) fun t20_2 =>
 M.bind (lnL (strip v1)) fun t22_3 =>
 u2m v3 (strip v1) t22_3 (.int .i64 0) :=
 (u05 P X _ _ _).trans (by kernel_rfl)
theorem u2p (v3 v21 v22 v23 : PV) : u2m v3 v21 v22 v23 =
 M.bind (bi .lss .none v23 v22) fun t24_0 =>
 condM t24_0
 (M.bind (iaS 1 v21 v23) fun t25_1 =>
 M.bind (ld none true t25_1) fun t26_2 =>
 M.bind (callV P C (strip v3) [(strip (strip t26_2))]) fun t29_3 =>
 M.bind (bi .add .none v23 (.int .i64 1)) fun t30_4 =>
 u2m v3 v21 v22 (strip t30_4))
 (M.pure (.tup [])) :=
 (u05 P X _ _ _).trans (by kernel_rfl)
theorem uen (a0 a1 a2 a3 : PV) : C u4v [a0, a1, a2, a3] =
 trunc (M.bind (lnL (strip a1)) fun t11_0 =>
 M.bind (bi .gtr .none t11_0 (strip a2)) fun t13_1 =>
 condM t13_1
 (M.bind (bd [(.int .i64 0), (.int .i64 0)] [(0, 1, (.int .i64 0)), (1, 1, (.int .i64 2))]) fun t14_2 =>
 M.bind (mi u02 t14_2) fun t15_3 =>
 M.bind (pn t15_3) fun _ =>
 u6r a0 a1 a3)
 (u6r a0 a1 a3)) := by
 rw [C, u00 _ _ rfl]; kernel_rfl
theorem udf (a0 a1 : PV) : C u3a [a0, a1] =
 trunc (M.bind (C u6i [(strip (strip a1))]) fun t6_0 =>
 M.bind (C u0f [(strip (strip a0)), (strip t6_0)]) fun t7_1 =>
 M.bind (cv (.int .u64) true (strip a1)) fun t10_2 =>
 M.bind (C u36 [(strip (strip a0)), (strip t10_2)]) fun t11_3 =>
 M.pure (.tup [])) := by
 rw [C, u00 _ _ rfl]; kernel_rfl
theorem uie (a0 a1 : PV) : C u36 [a0, a1] =
 trunc (chk
 (M.bind (noPan (M.pure (strip a0))) fun t4_11 =>
 M.bind (noPan (M.pure (strip a0))) fun t5_12 =>
 M.bind (noPan (nc P t5_12)) fun t6_13 =>
 M.bind (noPan (fa 0 t6_13)) fun t7_14 =>
 M.bind (noPan (M.pure (strip a1))) fun t9_15 =>
 M.bind (noPan (C u6f [(strip t9_15)])) fun t10_16 =>
 M.bind (noPan (ld none true t7_14)) fun t8_17 =>
 M.bind (noPan (ap true 1 1 t8_17 t10_16)) fun t11_18 =>
 M.bind (noPan (nc P t4_11)) fun t12_19 =>
 M.bind (noPan (fa 0 t12_19)) fun t13_20 =>
 M.bind (noPan (st 1 true t13_20 t11_18)) fun _ =>
 M.pure [a0, a1, .undef, .undef, t4_11, t5_12, t6_13, t7_14, (strip t8_17), t9_15, t10_16, (strip t11_18), t12_19, t13_20])
 (M.bind (noPan (M.pure (strip a0))) fun t4_0 =>
 M.bind (noPan (M.pure (strip a0))) fun t5_1 =>
 M.bind (noPan (nc P t5_1)) fun t6_2 =>
 M.bind (noPan (fa 0 t6_2)) fun t7_3 =>
 M.bind (noPan (M.pure (strip a1))) fun t9_4 =>
 M.bind (noPan (ld none true t7_3)) fun t8_5 =>
 M.bind (noPan (C u6f [(strip t9_4)])) fun t10_6 =>
 M.bind (noPan (ap true 1 1 t8_5 t10_6)) fun t11_7 =>
 M.bind (noPan (nc P t4_0)) fun t12_8 =>
 M.bind (noPan (fa 0 t12_8)) fun t13_9 =>
 M.bind (noPan (st 1 true t13_9 t11_7)) fun _ =>
 M.pure [a0, a1, .undef, .undef, t4_0, t5_1, t6_2, t7_3, (strip t8_5), t9_4, t10_6, (strip t11_7), t12_8, t13_9]) <|
 M.bind (noPan (M.pure (strip a0))) fun t4_22 =>
 M.bind (noPan (M.pure (strip a0))) fun t5_23 =>
 M.bind (noPan (nc P t5_23)) fun t6_24 =>
 M.bind (noPan (fa 0 t6_24)) fun t7_25 =>
 M.bind (noPan (M.pure (strip a1))) fun t9_26 =>
 M.bind (noPan (ld none true t7_25)) fun t8_27 =>
 M.bind (noPan (C u6f [(strip t9_26)])) fun t10_28 =>
 M.bind (noPan (ap true 1 1 t8_27 t10_28)) fun t11_29 =>
 M.bind (noPan (nc P t4_22)) fun t12_30 =>
 M.bind (noPan (fa 0 t12_30)) fun t13_31 =>
 M.bind (noPan (st 1 true t13_31 t11_29)) fun _ =>
 M.pure (.tup [])) := by
 rw [C, u00 _ _ rfl]; kernel_rfl
theorem u7w (a0 a1 a2 a3 : PV) : CD none u3j [a0, a1, a2, a3] =
 noPan (trunc (M.bind (M.pure .niliface) fun t6_0 =>
 M.bind (bi .neq .iface (strip t6_0) .niliface) fun t8_1 =>
 condM t8_1
 (M.bind (ta u02 (.agg [(.int .i64 0), (.int .i64 0)]) false (strip t6_0)) fun t10_2 =>
 M.bind (al [(.int .i64 0), (.int .i64 0)]) fun t5_3 =>
 M.bind (st 2 true t5_3 t10_2) fun _ =>
 nb (ld (some 2) true a0) fun t11_5 =>
 nb (fa 0 t5_3) fun t12_6 =>
 guardM (!clash (tld t12_6) (tld a0) && true) <| nb (ld none true t12_6) fun t13_7 =>
 nb (fa 1 t5_3) fun t14_8 =>
 guardM (!clash (tld t14_8) (tld t12_6) && (!clash (tld t14_8) (.no) && (!clash (tld t14_8) (tld a0) && true))) <| nb (ld none true t14_8) fun t15_9 =>
 guardM (!clash (tst a1) (tld t14_8) && (!clash (tst a1) (.no) && (!clash (tst a1) (tld t12_6) && (!clash (tst a1) (.no) && true)))) <| M.bind (noPan (st 2 true a1 t11_5)) fun _ =>
 guardM (!clash (tst a2) (tld t14_8) && (!clash (tst a2) (.no) && true)) <| M.bind (noPan (st 1 true a2 t13_7)) fun _ =>
 M.bind (noPan (st 1 true a3 t15_9)) fun _ =>
 M.pure (.tup []))
 (M.pure (.tup [])))) := by
 rw [CD, u7g]; kernel_rfl
theorem u81 (r : PV) (a0 a1 a2 a3 : PV) : CD (some r) u3j [a0, a1, a2, a3] =
 noPan (trunc (M.bind (M.pure r) fun t6_0 =>
 M.bind (bi .neq .iface (strip t6_0) .niliface) fun t8_1 =>
 condM t8_1
 (M.bind (ta u02 (.agg [(.int .i64 0), (.int .i64 0)]) false (strip t6_0)) fun t10_2 =>
 M.bind (al [(.int .i64 0), (.int .i64 0)]) fun t5_3 =>
 M.bind (st 2 true t5_3 t10_2) fun _ =>
 nb (ld (some 2) true a0) fun t11_5 =>
 nb (fa 0 t5_3) fun t12_6 =>
 guardM (!clash (tld t12_6) (tld a0) && true) <| nb (ld none true t12_6) fun t13_7 =>
 nb (fa 1 t5_3) fun t14_8 =>
 guardM (!clash (tld t14_8) (tld t12_6) && (!clash (tld t14_8) (.no) && (!clash (tld t14_8) (tld a0) && true))) <| nb (ld none true t14_8) fun t15_9 =>
 guardM (!clash (tst a1) (tld t14_8) && (!clash (tst a1) (.no) && (!clash (tst a1) (tld t12_6) && (!clash (tst a1) (.no) && true)))) <| M.bind (noPan (st 2 true a1 t11_5)) fun _ =>
 guardM (!clash (tst a2) (tld t14_8) && (!clash (tst a2) (.no) && true)) <| M.bind (noPan (st 1 true a2 t13_7)) fun _ =>
 M.bind (noPan (st 1 true a3 t15_9)) fun _ =>
 M.pure (.tup []))
 (M.pure (.tup [])))) := by
 rw [CD, u7g]; kernel_rfl
end Go.Proofs.YthnmienjiangkaaGreatDoor.Pi.Q
namespace Go.Proofs.YthnmienjiangkaaGreatDoor.Pi.Q
open Go Go.Proofs.YthnmienjiangkaaGreatDoor.Pi
noncomputable def u53 (v0 v2 : PV) : M PV := atP P X u0h [1, 1] (mkEnv 30 0 [(0, v0), (2, v2)])
theorem u97 (v0 v2 : PV) : u53 v0 v2 =
 nb (nc P (strip v0)) fun t21_0 =>
 nb (fa 0 t21_0) fun t22_1 =>
 nb (ld none false t22_1) fun t23_2 =>
 nb (nc P (strip v0)) fun t25_3 =>
 nb (fa 1 t25_3) fun t26_4 =>
 nb (ld none false t26_4) fun t27_5 =>
 nb (iaS 1 t23_2 t27_5) fun t28_6 =>
 nb (ld none true t28_6) fun t29_7 =>
 resT t29_7 (M.pure t29_7) :=
 (u05 P X _ _ _).trans (by kernel_rfl)
theorem ubv (a0 : PV) : C u0h [a0] =
 trunc (nb (nc P (strip a0)) fun t4_0 =>
 nb (fa 1 t4_0) fun t5_1 =>
 nb (ld none false t5_1) fun t6_2 =>
 nb (nc P (strip a0)) fun t8_3 =>
 nb (fa 0 t8_3) fun t9_4 =>
 nb (ld none false t9_4) fun t10_5 =>
 nb (lnL t10_5) fun t11_6 =>
 nb (bi .geq .none t6_2 t11_6) fun t12_7 =>
 condM t12_7
 (M.bind (nc P (strip a0)) fun t15_8 =>
 M.bind (fa 0 t15_8) fun t16_9 =>
 M.bind (ld none false t16_9) fun t17_10 =>
 M.bind (lnL t17_10) fun t18_11 =>
 M.bind (C u04 [(strip (strip a0)), (strip t18_11), (.int .i64 3)]) fun t19_12 =>
 u53 a0 (.int .u8 0))
 (u53 a0 (.int .u8 0))) := by
 rw [C, u00 _ _ rfl]; kernel_rfl
theorem ucx (a0 : PV) : C u2r [a0] =
 trunc (M.bind (al [(.bool false), (.slice false true 0 []), (.int .i64 0), (.slice false true 0 []), (.slice false true 0 []), (.slice false true 0 [])]) fun t2_0 =>
 M.bind (C u0h [(strip (strip a0))]) fun t6_1 =>
 M.bind (bi .neq .none (strip t6_1) (.int .u8 80)) fun t8_2 =>
 M.bind (gd (strip t8_2) true (M.pure (strip t6_1))) fun t10_3 =>
 M.bind (gd (strip t8_2) true (bi .neq .none t10_3 (.int .u8 79))) fun t11_4 =>
 M.bind (pick (strip t8_2) t11_4 (.bool false)) fun t12_5 =>
 condM t12_5
 (M.bind (C u4t [(strip (strip a0))]) fun t14_6 =>
 M.bind (bd [(.bool false), (.slice false true 0 []), (.int .i64 0), (.slice false true 0 []), (.slice false true 0 []), (.slice false true 0 [])] [(0, 1, (.bool true)), (2, 4, t14_6)]) fun t15_7 =>
 M.bind (st 6 true t2_0 t15_7) fun _ =>
 M.bind (ld (some 6) true t2_0) fun t0_9 => guardM (!isTup t0_9) (M.pure t0_9))
 (M.bind (nc P (strip a0)) fun t17_10 =>
 M.bind (fa 1 t17_10) fun t18_11 =>
 M.bind (ld none false t18_11) fun t19_12 =>
 M.bind (bi .add .none t19_12 (.int .i64 1)) fun t20_13 =>
 M.bind (nc P (strip a0)) fun t21_14 =>
 M.bind (fa 1 t21_14) fun t22_15 =>
 M.bind (st 1 true t22_15 t20_13) fun _ =>
 M.bind (bi .eql .none (strip t6_1) (.int .u8 79)) fun t24_17 =>
 M.bind (mf u11 [(strip a0)] []) fun t27_18 =>
 M.bind (C u3p [(strip (strip a0)), (.int .u32 1000), (strip t27_18)]) fun t28_19 =>
 M.bind (bd [(.bool false), (.slice false true 0 []), (.int .i64 0), (.slice false true 0 []), (.slice false true 0 []), (.slice false true 0 [])] [(0, 1, t24_17), (1, 1, t28_19)]) fun t29_20 =>
 M.bind (al [(.bool false), (.slice false true 0 []), (.int .i64 0), (.slice false true 0 []), (.slice false true 0 []), (.slice false true 0 [])]) fun t4_21 =>
 M.bind (st 6 true t4_21 t29_20) fun _ =>
 M.bind (C u4t [(strip (strip a0))]) fun t31_23 =>
 M.bind (fa 2 t4_21) fun t32_24 =>
 M.bind (st 4 true t32_24 t31_23) fun _ =>
 M.bind (ld (some 6) true t4_21) fun t33_26 =>
 M.bind (st 6 true t2_0 t33_26) fun _ =>
 M.bind (ld (some 6) true t2_0) fun t0_28 => guardM (!isTup t0_28) (M.pure t0_28))) := by
 rw [C, u00 _ _ rfl]; kernel_rfl
noncomputable def u2z (v2 v6 v8 : PV) : M PV := atP P X u1e [1, 1, 1, 1] (mkEnv 32 0 [(2, v2), (6, v6), (8, v8)])
noncomputable def u0w (v2 v6 v9 v22 v23 : PV) : M PV := atP P X u1e [1, 1, 1, 1, 1, 0, 1, 0] (mkEnv 32 0 [(2, v2), (6, v6), (9, v9), (22, v22), (23, v23)])
theorem u73 (v2 v6 v8 : PV) : u2z v2 v6 v8 =
 u0w v2 v6 (.slice false true 0 []) (strip v8) (.int .u32 0) :=
 (u05 P X _ _ _).trans (by kernel_rfl)
theorem u38 (v2 v6 v9 v22 v23 : PV) : u0w v2 v6 v9 v22 v23 =
 M.bind (bi .lss .none v23 v22) fun t24_0 =>
 condM t24_0
 (M.bind (callV P C (strip v2) []) fun t27_1 =>
 M.bind (bs true (some 6) [t27_1]) fun t28_2 =>
 M.bind (ap true 6 112 v9 t28_2) fun t29_3 =>
 M.bind (bi .add .none v23 (.int .u32 1)) fun t30_4 =>
 u0w v2 v6 t29_3 v22 (strip t30_4))
 (resT v9 (M.pure v9)) :=
 (u05 P X _ _ _).trans (by kernel_rfl)
theorem u99 (a0 a1 a2 : PV) : C u1e [a0, a1, a2] =
 trunc (M.bind (nc P (strip a0)) fun t11_0 =>
 M.bind (fa 1 t11_0) fun t12_1 =>
 M.bind (ld none true t12_1) fun t13_2 =>
 M.bind (C u1r [(strip (strip a0))]) fun t15_3 =>
 M.bind (bi .gtr .none (strip t15_3) (strip a1)) fun t18_4 =>
 condM t18_4
 (M.bind (C u04 [(strip (strip a0)), (strip (strip t13_2)), (.int .i64 2)]) fun t21_5 =>
 u2z a2 (.slice false true 0 []) t15_3)
 (u2z a2 (.slice false true 0 []) t15_3)) := by
 rw [C, u00 _ _ rfl]; kernel_rfl
noncomputable def u17 (v0 v1 v4 v5 : PV) : M PV := atP P X u29 [1, 1, 0, 1, 0] (mkEnv 27 0 [(0, v0), (1, v1), (4, v4), (5, v5)])
theorem u42 (v0 v1 v4 v5 : PV) : u17 v0 v1 v4 v5 =
 M.bind (lnL (strip v0)) fun t13_0 =>
 M.bind (bi .lss .none (strip v5) t13_0) fun t14_1 =>
 condM t14_1
 (M.bind (noPan (M.pure (strip v0))) fun t17_12 =>
 M.bind (noPan (M.pure (strip v5))) fun t18_13 =>
 M.bind (noPan (iaS 3 t17_12 t18_13)) fun t19_14 =>
 M.bind (noPan (M.pure (strip v1))) fun t21_15 =>
 M.bind (noPan (M.pure (strip v5))) fun t22_16 =>
 M.bind (noPan (iaS 3 t21_15 t22_16)) fun t23_17 =>
 M.bind (noPan (ld (some 3) false t19_14)) fun t20_18 =>
 M.bind (noPan (ld (some 3) false t23_17)) fun t24_19 =>
 M.bind (noPan (C u2i [(strip t20_18), (strip t24_19)])) fun t25_20 =>
 M.bind (noPan (un .not t25_20)) fun t26_21 =>
 condM t26_21
 (M.pure (.bool false))
 (M.bind (bi .add .none (strip v5) (.int .i64 1)) fun t16_22 =>
 u17 v0 v1 v4 t16_22))
 (M.pure (.bool true)) :=
 (u05 P X _ _ _).trans (by kernel_rfl)
theorem u9k (a0 a1 : PV) : C u29 [a0, a1] =
 trunc (M.bind (lnL (strip a0)) fun t7_0 =>
 M.bind (lnL (strip a1)) fun t9_1 =>
 M.bind (bi .neq .none t7_0 t9_1) fun t10_2 =>
 condM t10_2
 (M.pure (.bool false))
 (u17 a0 a1 (.bool false) (.int .i64 0))) := by
 rw [C, u00 _ _ rfl]; kernel_rfl
noncomputable def u12 (v0 v1 v4 v5 : PV) : M PV := atP P X u2j [1, 1, 0, 1, 0] (mkEnv 42 0 [(0, v0), (1, v1), (4, v4), (5, v5)])
theorem u3f (v0 v1 v4 v5 : PV) : u12 v0 v1 v4 v5 =
 M.bind (lnL (strip v0)) fun t13_0 =>
 M.bind (bi .lss .none (strip v5) t13_0) fun t14_1 =>
 condM t14_1
 (M.bind (noPan (M.pure (strip v0))) fun t17_27 =>
 M.bind (noPan (M.pure (strip v5))) fun t18_28 =>
 M.bind (noPan (iaS 4 t17_27 t18_28)) fun t19_29 =>
 M.bind (noPan (fa 3 t19_29)) fun t20_30 =>
 M.bind (noPan (M.pure (strip v1))) fun t22_31 =>
 M.bind (noPan (M.pure (strip v5))) fun t23_32 =>
 M.bind (noPan (iaS 4 t22_31 t23_32)) fun t24_33 =>
 M.bind (noPan (fa 3 t24_33)) fun t25_34 =>
 M.bind (noPan (ld none false t20_30)) fun t21_35 =>
 M.bind (noPan (ld none false t25_34)) fun t26_36 =>
 M.bind (noPan (bi .neq .bool t21_35 t26_36)) fun t27_37 =>
 M.bind (noPan (M.pure (strip t27_37))) fun t28_38 =>
 M.bind (noPan (gd t28_38 false (M.pure (strip v0)))) fun t29_39 =>
 M.bind (noPan (gd t28_38 false (M.pure (strip v5)))) fun t30_40 =>
 M.bind (noPan (gd t28_38 false (iaS 4 t29_39 t30_40))) fun t31_41 =>
 M.bind (noPan (gd t28_38 false (fa 0 t31_41))) fun t32_42 =>
 M.bind (noPan (gd t28_38 false (M.pure (strip v1)))) fun t34_43 =>
 M.bind (noPan (gd t28_38 false (M.pure (strip v5)))) fun t35_44 =>
 M.bind (noPan (gd t28_38 false (iaS 4 t34_43 t35_44))) fun t36_45 =>
 M.bind (noPan (gd t28_38 false (fa 0 t36_45))) fun t37_46 =>
 M.bind (noPan (gd t28_38 false (ld (some 3) false t32_42))) fun t33_47 =>
 M.bind (noPan (gd t28_38 false (ld (some 3) false t37_46))) fun t38_48 =>
 M.bind (noPan (gd t28_38 false (C u2i [(strip t33_47), (strip t38_48)]))) fun t39_49 =>
 M.bind (noPan (gd t28_38 false (un .not t39_49))) fun t40_50 =>
 M.bind (noPan (pick t28_38 (.bool true) t40_50)) fun t41_51 =>
 condM t41_51
 (M.pure (.bool false))
 (M.bind (bi .add .none (strip v5) (.int .i64 1)) fun t16_52 =>
 u12 v0 v1 v4 t16_52))
 (M.pure (.bool true)) :=
 (u05 P X _ _ _).trans (by kernel_rfl)
theorem u8p (a0 a1 : PV) : C u2j [a0, a1] =
 trunc (M.bind (lnL (strip a0)) fun t7_0 =>
 M.bind (lnL (strip a1)) fun t9_1 =>
 M.bind (bi .neq .none t7_0 t9_1) fun t10_2 =>
 condM t10_2
 (M.pure (.bool false))
 (u12 a0 a1 (.bool false) (.int .i64 0))) := by
 rw [C, u00 _ _ rfl]; kernel_rfl
theorem ufj (a0 : PV) : C u49 [a0] =
 trunc (M.bind (lnS (strip a0)) fun t5_0 =>
 M.bind (bi .gtr .none t5_0 (.int .i64 65536)) fun t6_1 =>
 condM t6_1
 (M.pure (.tup [(.slice false true 0 []), (.int .i64 2)]))
 (M.bind (C u15 [(strip (strip a0))]) fun t8_2 =>
 M.bind (un .not t8_2) fun t9_3 =>
 condM t9_3
 (M.pure (.tup [(.slice false true 0 []), (.int .i64 21)]))
 (M.bind (lnS (strip a0)) fun t11_4 =>
 M.bind (cv (.int .u64) true t11_4) fun t12_5 =>
 M.bind (C u6f [(strip t12_5)]) fun t13_6 =>
 M.bind (ap true 1 1 t13_6 (strip a0)) fun t15_7 =>
 resT t15_7 (M.pure (.tup [t15_7, (.int .i64 0)]))))) := by
 rw [C, u00 _ _ rfl]; kernel_rfl
theorem u77 (a0 a1 : PV) : C u0f [a0, a1] =
 trunc (M.bind (un .not (strip a1)) fun t5_0 =>
 condM t5_0
 (M.bind (bd [(.int .i64 0), (.int .i64 0)] [(0, 1, (.int .i64 0)), (1, 1, (.int .i64 4))]) fun t6_1 =>
 M.bind (mi u02 t6_1) fun t7_2 =>
 M.bind (pn t7_2) fun _ =>
 M.pure (.tup []))
 (M.pure (.tup []))) := by
 rw [C, u00 _ _ rfl]; kernel_rfl
theorem udy (a0 a1 : PV) : C u75 [a0, a1] =
 trunc (M.bind (bx 7 a1) fun t3_0 =>
 M.bind (fa 0 t3_0) fun t5_1 =>
 M.bind (fa 0 t5_1) fun t6_2 =>
 M.bind (ld none false t6_2) fun t7_3 =>
 M.bind (bi .eql .none t7_3 (.int .i64 5)) fun t8_4 =>
 M.bind (C u0f [(strip (strip a0)), (strip t8_4)]) fun t9_5 =>
 M.bind (fa 0 t3_0) fun t11_6 =>
 M.bind (ld (some 3) false t11_6) fun t12_7 =>
 M.bind (C u28 [(strip (strip a0)), (strip t12_7)]) fun t13_8 =>
 M.bind (fa 3 t3_0) fun t15_9 =>
 M.bind (ld (some 4) false t15_9) fun t16_10 =>
 M.bind (C u2n [(strip (strip a0)), (strip t16_10)]) fun t17_11 =>
 M.pure (.tup [])) := by
 rw [C, u00 _ _ rfl]; kernel_rfl
noncomputable def u51 (v0 v3 v4 : PV) : M PV := atP P X u2n [1, 1, 1] (mkEnv 51 0 [(0, v0), (3, v3), (4, v4)])
noncomputable def u4q (v0 v3 v4 : PV) : M PV := atP P X u2n [1, 1, 1, 1] (mkEnv 51 0 [(0, v0), (3, v3), (4, v4)])
theorem u9b (v0 v3 v4 : PV) : u51 v0 v3 v4 =
 M.bind (fa 0 v3) fun t7_0 =>
 M.bind (ld none false t7_0) fun t8_1 =>
 condM t8_1
 (M.bind (bi .add .none (strip v4) (.int .u8 4)) fun t10_2 =>
 u4q v0 v3 t10_2)
 (u4q v0 v3 v4) :=
 (u05 P X _ _ _).trans (by kernel_rfl)
theorem u8q (v0 v3 v4 : PV) : u4q v0 v3 v4 =
 M.bind (C u07 [(strip (strip v0)), (strip (strip v4))]) fun t13_0 =>
 M.bind (fa 0 v3) fun t15_1 =>
 M.bind (ld none false t15_1) fun t16_2 =>
 M.bind (gd (strip t16_2) false (fa 1 v3)) fun t18_3 =>
 M.bind (gd (strip t16_2) false (ld none false t18_3)) fun t19_4 =>
 M.bind (gd (strip t16_2) false (bi .lss .none t19_4 (.int .u64 4294967296))) fun t20_5 =>
 M.bind (pick (strip t16_2) (.bool true) t20_5) fun t21_6 =>
 M.bind (C u0f [(strip (strip v0)), (strip t21_6)]) fun t22_7 =>
 M.bind (fa 1 v3) fun t24_8 =>
 M.bind (ld none false t24_8) fun t25_9 =>
 M.bind (C u36 [(strip (strip v0)), (strip t25_9)]) fun t26_10 =>
 M.bind (fa 3 v3) fun t28_11 =>
 M.bind (ld none false t28_11) fun t29_12 =>
 M.bind (gd (strip t29_12) false (fa 2 v3)) fun t31_13 =>
 M.bind (gd (strip t29_12) false (ld none false t31_13)) fun t32_14 =>
 M.bind (gd (strip t29_12) false (bi .eql .none t32_14 (.int .u64 0))) fun t33_15 =>
 M.bind (pick (strip t29_12) (.bool true) t33_15) fun t34_16 =>
 M.bind (gd (strip t34_16) true (fa 0 v3)) fun t36_17 =>
 M.bind (gd (strip t34_16) true (ld none false t36_17)) fun t37_18 =>
 M.bind (gd (strip t34_16) true (M.pure (strip t37_18))) fun t38_19 =>
 M.bind (gd t38_19 false (fa 2 v3)) fun t39_20 =>
 M.bind (gd t38_19 false (ld none false t39_20)) fun t40_21 =>
 M.bind (gd t38_19 false (bi .lss .none t40_21 (.int .u64 4294967296))) fun t41_22 =>
 M.bind (gd (strip t34_16) true (pick t38_19 (.bool true) t41_22)) fun t42_23 =>
 M.bind (pick (strip t34_16) t42_23 (.bool false)) fun t43_24 =>
 M.bind (C u0f [(strip (strip v0)), (strip t43_24)]) fun t44_25 =>
 M.bind (fa 3 v3) fun t45_26 =>
 M.bind (ld none false t45_26) fun t46_27 =>
 condM t46_27
 (M.bind (fa 2 v3) fun t48_28 =>
 M.bind (ld none false t48_28) fun t49_29 =>
 M.bind (C u36 [(strip (strip v0)), (strip t49_29)]) fun t50_30 =>
 M.pure (.tup []))
 (M.pure (.tup [])) :=
 (u05 P X _ _ _).trans (by kernel_rfl)
theorem ucj (a0 a1 : PV) : C u2n [a0, a1] =
 trunc (M.bind (bx 4 a1) fun t3_0 =>
 M.bind (fa 3 t3_0) fun t5_1 =>
 M.bind (ld none false t5_1) fun t6_2 =>
 condM t6_2
 (u51 a0 t3_0 (.int .u8 1))
 (u51 a0 t3_0 (.int .u8 0))) := by
 rw [C, u00 _ _ rfl]; kernel_rfl
theorem uch (a0 a1 : PV) : C u6p [a0, a1] =
 trunc (M.bind (bx 4 a1) fun t3_0 =>
 M.bind (fa 0 t3_0) fun t5_1 =>
 M.bind (ld (some 3) false t5_1) fun t6_2 =>
 M.bind (C u28 [(strip (strip a0)), (strip t6_2)]) fun t7_3 =>
 M.bind (fa 3 t3_0) fun t9_4 =>
 M.bind (ld none false t9_4) fun t10_5 =>
 M.bind (C u61 [(strip (strip a0)), (strip t10_5)]) fun t11_6 =>
 M.pure (.tup [])) := by
 rw [C, u00 _ _ rfl]; kernel_rfl
theorem ufi (a0 a1 : PV) : C u87 [a0, a1] =
 trunc (M.bind (C u07 [(strip (strip a0)), (.int .u8 0)]) fun t5_0 =>
 M.bind (C u3a [(strip (strip a0)), (strip (strip a1))]) fun t8_1 =>
 M.pure (.tup [])) := by
 rw [C, u00 _ _ rfl]; kernel_rfl
theorem usj (a0 a1 a2 : PV) : C ugg [a0, a1, a2] =
 trunc (M.bind (C u3l [(strip (strip a0)), (strip (strip a1)), (strip (strip a2)), (.fn uds [] [])]) fun t12_0 =>
 M.bind (ex 0 t12_0) fun t13_1 =>
 M.bind (ex 1 (tupDrop 0 t12_0)) fun t14_2 =>
 M.bind (ex 2 (tupDrop 1 (tupDrop 0 t12_0))) fun t15_3 =>
 resT t13_1 (resT t14_2 (resT t15_3 (M.pure (.tup [t13_1, t14_2, t15_3]))))) := by
 rw [C, u00 _ _ rfl]; kernel_rfl
noncomputable def u57 (v0 v1 v2 v8 : PV) : M PV := atP P X u3u [1, 1] (mkEnv 20 0 [(0, v0), (1, v1), (2, v2), (8, v8)])
theorem u9m (v0 v1 v2 v8 : PV) : u57 v0 v1 v2 v8 =
 M.bind (nc P (strip v0)) fun t17_0 =>
 M.bind (fa 1 t17_0) fun t18_1 =>
 M.bind (st 1 true t18_1 v2) fun _ =>
 resT v1 (M.pure v1) :=
 (u05 P X _ _ _).trans (by kernel_rfl)
theorem u85 (a0 a1 a2 a3 : PV) : C u3u [a0, a1, a2, a3] =
 trunc (M.bind (bi .neq .none (strip a3) (.int .i64 0)) fun t10_0 =>
 condM t10_0
 (M.bind (C u04 [(strip (strip a0)), (strip (strip a2)), (strip (strip a3))]) fun t14_1 =>
 u57 a0 a1 a2 (.int .u64 0))
 (u57 a0 a1 a2 (.int .u64 0))) := by
 rw [C, u00 _ _ rfl]; kernel_rfl
theorem utm (a0 a1 a2 : PV) : C udb [a0, a1, a2] =
 trunc (M.bind (C u3g [(strip (strip a0)), (strip (strip a1)), (strip (strip a2)), (.fn udw [] [])]) fun t12_0 =>
 M.bind (ex 0 t12_0) fun t13_1 =>
 M.bind (ex 1 (tupDrop 0 t12_0)) fun t14_2 =>
 M.bind (ex 2 (tupDrop 1 (tupDrop 0 t12_0))) fun t15_3 =>
 resT t13_1 (resT t14_2 (resT t15_3 (M.pure (.tup [t13_1, t14_2, t15_3]))))) := by
 rw [C, u00 _ _ rfl]; kernel_rfl
noncomputable def u5e (v0 v1 v2 v8 : PV) : M PV := atP P X u3s [1, 1] (mkEnv 20 0 [(0, v0), (1, v1), (2, v2), (8, v8)])
theorem u9e (v0 v1 v2 v8 : PV) : u5e v0 v1 v2 v8 =
 M.bind (nc P (strip v0)) fun t17_0 =>
 M.bind (fa 1 t17_0) fun t18_1 =>
 M.bind (st 1 true t18_1 v2) fun _ =>
 resT v1 (M.pure v1) :=
 (u05 P X _ _ _).trans (by kernel_rfl)
theorem u8k (a0 a1 a2 a3 : PV) : C u3s [a0, a1, a2, a3] =
 trunc (M.bind (bi .neq .none (strip a3) (.int .i64 0)) fun t10_0 =>
 condM t10_0
 (M.bind (C u04 [(strip (strip a0)), (strip (strip a2)), (strip (strip a3))]) fun t14_1 =>
 u5e a0 a1 a2 (.int .u32 0))
 (u5e a0 a1 a2 (.int .u32 0))) := by
 rw [C, u00 _ _ rfl]; kernel_rfl
theorem uic (a0 : PV) : C u7x [a0] =
 trunc (M.bind (bi .lss .none (strip a0) (.int .u8 105)) fun t4_0 =>
 M.bind (gd (strip t4_0) false (M.pure (strip a0))) fun t6_1 =>
 M.bind (gd (strip t4_0) false (bi .gtr .none t6_1 (.int .u8 116))) fun t7_2 =>
 M.bind (pick (strip t4_0) (.bool true) t7_2) fun t8_3 =>
 condM t8_3
 (M.pure (.int .i64 0))
 (M.bind (C u4x []) fun t9_4 =>
 M.bind (bi .sub .none (strip a0) (.int .u8 105)) fun t11_5 =>
 M.bind (ixA 12 1 none t9_4 t11_5) fun t12_6 =>
 resT t12_6 (M.pure t12_6))) := by
 rw [C, u00 _ _ rfl]; kernel_rfl
theorem ubx (a0 : PV) : C u6b [a0] =
 trunc (M.bind (C u0h [(strip (strip a0))]) fun t5_0 =>
 M.bind (C u7x [(strip t5_0)]) fun t6_1 =>
 M.bind (bi .neq .none (strip t6_1) (.int .i64 0)) fun t8_2 =>
 condM t8_2
 (M.bind (nc P (strip a0)) fun t10_3 =>
 M.bind (fa 1 t10_3) fun t11_4 =>
 M.bind (ld none false t11_4) fun t12_5 =>
 M.bind (bi .add .none t12_5 (.int .i64 1)) fun t13_6 =>
 M.bind (nc P (strip a0)) fun t14_7 =>
 M.bind (fa 1 t14_7) fun t15_8 =>
 M.bind (st 1 true t15_8 t13_6) fun _ =>
 resT t6_1 (M.pure t6_1))
 (M.bind (C u56 [(strip (strip a0))]) fun t18_10 =>
 resT t18_10 (M.pure t18_10))) := by
 rw [C, u00 _ _ rfl]; kernel_rfl
theorem ukj (a0 a1 : PV) : C uah [a0, a1] =
 trunc (M.bind (bx 1 a0) fun t2_0 =>
 M.bind (bx 1 a1) fun t3_1 =>
 M.bind (ld none false t3_1) fun t10_2 =>
 M.bind (bi .lss .none t10_2 (.int .i64 0)) fun t11_3 =>
 M.bind (gd (strip t11_3) false (ld none false t3_1)) fun t13_4 =>
 M.bind (gd (strip t11_3) false (ld none false t2_0)) fun t14_5 =>
 M.bind (gd (strip t11_3) false (lnL t14_5)) fun t15_6 =>
 M.bind (gd (strip t11_3) false (bi .gtr .none t13_4 t15_6)) fun t16_7 =>
 M.bind (pick (strip t11_3) (.bool true) t16_7) fun t17_8 =>
 condM t17_8
 (M.pure (.tup [(.str ⟨#[]⟩), (.int .i64 0), (.int .i64 1)]))
 (M.bind (al [(.str ⟨#[]⟩)]) fun t7_9 =>
 M.bind (al [(.int .i64 0)]) fun t8_10 =>
 M.bind (st 1 false t7_9 (.str ⟨#[]⟩)) fun _ =>
 M.bind (st 1 false t8_10 (.int .i64 0)) fun _ =>
 M.bind (mf uc9 [] [t2_0, t3_1, t7_9, t8_10]) fun t18_13 =>
 M.bind (C uc8 [(strip t18_13)]) fun t19_14 =>
 M.bind (al [(.int .i64 0), (.int .i64 0)]) fun t9_15 =>
 M.bind (st 2 true t9_15 t19_14) fun _ =>
 M.bind (fa 1 t9_15) fun t20_17 =>
 M.bind (ld none false t20_17) fun t21_18 =>
 M.bind (bi .neq .none t21_18 (.int .i64 0)) fun t22_19 =>
 condM t22_19
 (nb (fa 0 t9_15) fun t23_20 =>
 nb (ld none true t23_20) fun t24_21 =>
 nb (fa 1 t9_15) fun t25_22 =>
 nb (ld none true t25_22) fun t26_23 =>
 resT t24_21 (resT t26_23 (M.pure (.tup [(.str ⟨#[]⟩), t24_21, t26_23]))))
 (nb (ld none true t7_9) fun t27_24 =>
 nb (ld none true t8_10) fun t28_25 =>
 resT t27_24 (resT t28_25 (M.pure (.tup [t27_24, t28_25, (.int .i64 0)])))))) := by
 rw [C, u00 _ _ rfl]; kernel_rfl
noncomputable def u5d (v0 v1 v2 v8 : PV) : M PV := atP P X u3v [1, 1] (mkEnv 20 0 [(0, v0), (1, v1), (2, v2), (8, v8)])
theorem u9l (v0 v1 v2 v8 : PV) : u5d v0 v1 v2 v8 =
 M.bind (nc P (strip v0)) fun t17_0 =>
 M.bind (fa 1 t17_0) fun t18_1 =>
 M.bind (st 1 true t18_1 v2) fun _ =>
 resT v1 (M.pure v1) :=
 (u05 P X _ _ _).trans (by kernel_rfl)
theorem u8o (a0 a1 a2 a3 : PV) : C u3v [a0, a1, a2, a3] =
 trunc (M.bind (bi .neq .none (strip a3) (.int .i64 0)) fun t10_0 =>
 condM t10_0
 (M.bind (C u04 [(strip (strip a0)), (strip (strip a2)), (strip (strip a3))]) fun t14_1 =>
 u5d a0 a1 a2 (.str ⟨#[]⟩))
 (u5d a0 a1 a2 (.str ⟨#[]⟩))) := by
 rw [C, u00 _ _ rfl]; kernel_rfl
noncomputable def u0v (v0 v1 v22 v23 : PV) : M PV := atP P X u67 [1, 0, 1, 0] (mkEnv 38 0 [(0, v0), (1, v1), (22, v22), (23, v23)])
theorem u6d (v0 v1 v22 v23 : PV) : u0v v0 v1 v22 v23 =
 M.bind (bi .lss .none v23 (.int .i64 12)) fun t24_0 =>
 condM t24_0
 (M.bind (ixA 12 1 none v22 (strip v23)) fun t26_1 =>
 M.bind (bi .eql .none (strip t26_1) (strip v1)) fun t29_2 =>
 condM t29_2
 (M.bind (cv (.int .u8) true (strip v23)) fun t32_3 =>
 M.bind (bi .add .none (.int .u8 105) t32_3) fun t33_4 =>
 M.bind (C u07 [(strip (strip v0)), (strip t33_4)]) fun t34_5 =>
 M.pure (.tup []))
 (M.bind (bi .add .none (strip v23) (.int .i64 1)) fun t35_6 =>
 u0v v0 v1 v22 (strip t35_6)))
 (M.bind (C u0f [(strip (strip v0)), (.bool false)]) fun t37_7 =>
 M.pure (.tup [])) :=
 (u05 P X _ _ _).trans (by kernel_rfl)
theorem ueo (a0 a1 : PV) : C u67 [a0, a1] =
 trunc (M.bind (bi .geq .none (strip a1) (.int .i64 0)) fun t7_0 =>
 condM t7_0
 (M.bind (C u6i [(strip (strip a1))]) fun t10_1 =>
 M.bind (C u0f [(strip (strip a0)), (strip t10_1)]) fun t11_2 =>
 chk
 (M.bind (noPan (M.pure (strip a0))) fun t12_14 =>
 M.bind (noPan (M.pure (strip a0))) fun t13_15 =>
 M.bind (noPan (nc P t13_15)) fun t14_16 =>
 M.bind (noPan (fa 0 t14_16)) fun t15_17 =>
 M.bind (noPan (M.pure (strip a1))) fun t17_18 =>
 M.bind (noPan (C u7c [(strip t17_18)])) fun t18_19 =>
 M.bind (noPan (ld none true t15_17)) fun t16_20 =>
 M.bind (noPan (ap true 1 1 t16_20 t18_19)) fun t19_21 =>
 M.bind (noPan (nc P t12_14)) fun t20_22 =>
 M.bind (noPan (fa 0 t20_22)) fun t21_23 =>
 M.bind (noPan (st 1 true t21_23 t19_21)) fun _ =>
 M.pure [a0, a1, .undef, .undef, .undef, .undef, (strip a1), t7_0, (strip a0), (strip a1), t10_1, t11_2, t12_14, t13_15, t14_16, t15_17, (strip t16_20), t17_18, t18_19, (strip t19_21), t20_22, t21_23, .undef, .undef, .undef, .undef, .undef, .undef, .undef, .undef, .undef, .undef, .undef, .undef, .undef, .undef, .undef, .undef])
 (M.bind (noPan (M.pure (strip a0))) fun t12_3 =>
 M.bind (noPan (M.pure (strip a0))) fun t13_4 =>
 M.bind (noPan (nc P t13_4)) fun t14_5 =>
 M.bind (noPan (fa 0 t14_5)) fun t15_6 =>
 M.bind (noPan (M.pure (strip a1))) fun t17_7 =>
 M.bind (noPan (ld none true t15_6)) fun t16_8 =>
 M.bind (noPan (C u7c [(strip t17_7)])) fun t18_9 =>
 M.bind (noPan (ap true 1 1 t16_8 t18_9)) fun t19_10 =>
 M.bind (noPan (nc P t12_3)) fun t20_11 =>
 M.bind (noPan (fa 0 t20_11)) fun t21_12 =>
 M.bind (noPan (st 1 true t21_12 t19_10)) fun _ =>
 M.pure [a0, a1, .undef, .undef, .undef, .undef, (strip a1), t7_0, (strip a0), (strip a1), t10_1, t11_2, t12_3, t13_4, t14_5, t15_6, (strip t16_8), t17_7, t18_9, (strip t19_10), t20_11, t21_12, .undef, .undef, .undef, .undef, .undef, .undef, .undef, .undef, .undef, .undef, .undef, .undef, .undef, .undef, .undef, .undef]) <|
 M.bind (noPan (M.pure (strip a0))) fun t12_25 =>
 M.bind (noPan (M.pure (strip a0))) fun t13_26 =>
 M.bind (noPan (nc P t13_26)) fun t14_27 =>
 M.bind (noPan (fa 0 t14_27)) fun t15_28 =>
 M.bind (noPan (M.pure (strip a1))) fun t17_29 =>
 M.bind (noPan (ld none true t15_28)) fun t16_30 =>
 M.bind (noPan (C u7c [(strip t17_29)])) fun t18_31 =>
 M.bind (noPan (ap true 1 1 t16_30 t18_31)) fun t19_32 =>
 M.bind (noPan (nc P t12_25)) fun t20_33 =>
 M.bind (noPan (fa 0 t20_33)) fun t21_34 =>
 M.bind (noPan (st 1 true t21_34 t19_32)) fun _ =>
 M.pure (.tup []))
 (M.bind (C u4x []) fun t22_36 =>
 u0v a0 a1 t22_36 (.int .i64 0))) := by
 rw [C, u00 _ _ rfl]; kernel_rfl
theorem uei (a0 a1 : PV) : C u66 [a0, a1] =
 trunc (M.bind (mf u28 [(strip a0)] []) fun t7_0 =>
 M.bind (C u21 [(strip (strip a0)), (strip (strip a1)), (.int .i64 1000), (strip t7_0)]) fun t8_1 =>
 M.pure (.tup [])) := by
 rw [C, u00 _ _ rfl]; kernel_rfl
noncomputable def u4g (v0 v1 v3 : PV) : M PV := atP P X u2d [1] (mkEnv 31 0 [(0, v0), (1, v1), (3, v3)])
noncomputable def u1j (v3 v21 v22 v23 : PV) : M PV := atP P X u2d [1, 1, 1, 0] (mkEnv 31 0 [(3, v3), (21, v21), (22, v22), (23, v23)])
theorem u84 (v0 v1 v3 : PV) : u4g v0 v1 v3 =
 M.bind (lnL (strip v1)) fun t18_0 =>
 M.bind (cv (.int .u64) true t18_0) fun t19_1 =>
 M.bind (C u36 [(strip (strip v0)), (strip t19_1)]) fun t20_2 =>
 M.bind (lnL (strip v1)) fun t22_3 =>
 u1j v3 (strip v1) t22_3 (.int .i64 0) :=
 (u05 P X _ _ _).trans (by kernel_rfl)
theorem u1p (v3 v21 v22 v23 : PV) : u1j v3 v21 v22 v23 =
 M.bind (bi .lss .none v23 v22) fun t24_0 =>
 condM t24_0
 (M.bind (iaS 4 v21 v23) fun t25_1 =>
 M.bind (ld (some 4) true t25_1) fun t26_2 =>
 M.bind (al [(.int .i64 0), (.bool false), (.int .i64 0), (.bool false)]) fun t9_3 =>
 M.bind (st 4 true t9_3 t26_2) fun _ =>
 M.bind (ld (some 4) false t9_3) fun t28_5 =>
 M.bind (callV P C (strip v3) [(strip t28_5)]) fun t29_6 =>
 M.bind (bi .add .none v23 (.int .i64 1)) fun t30_7 =>
 u1j v3 v21 v22 (strip t30_7))
 (M.pure (.tup [])) :=
 (u05 P X _ _ _).trans (by kernel_rfl)
theorem ua6 (a0 a1 a2 a3 : PV) : C u2d [a0, a1, a2, a3] =
 trunc (M.bind (lnL (strip a1)) fun t11_0 =>
 M.bind (bi .gtr .none t11_0 (strip a2)) fun t13_1 =>
 condM t13_1
 (M.bind (bd [(.int .i64 0), (.int .i64 0)] [(0, 1, (.int .i64 0)), (1, 1, (.int .i64 2))]) fun t14_2 =>
 M.bind (mi u02 t14_2) fun t15_3 =>
 M.bind (pn t15_3) fun _ =>
 u4g a0 a1 a3)
 (u4g a0 a1 a3)) := by
 rw [C, u00 _ _ rfl]; kernel_rfl
noncomputable def u44 (v0 v3 : PV) : M PV := atP P X u39 [1, 1] (mkEnv 24 0 [(0, v0), (3, v3)])
theorem u9w (v0 v3 : PV) : u44 v0 v3 =
 M.bind (fa 3 v3) fun t21_0 =>
 M.bind (ld none false t21_0) fun t22_1 =>
 M.bind (C u61 [(strip (strip v0)), (strip t22_1)]) fun t23_2 =>
 M.pure (.tup []) :=
 (u05 P X _ _ _).trans (by kernel_rfl)
theorem ude (a0 a1 : PV) : C u39 [a0, a1] =
 trunc (M.bind (bx 4 a1) fun t3_0 =>
 M.bind (fa 0 t3_0) fun t4_1 =>
 M.bind (ld (some 3) false t4_1) fun t5_2 =>
 M.bind (bd [(.int .i64 0), (.bool false), (.int .i64 0)] [(0, 1, (.int .i64 6))]) fun t11_3 =>
 M.bind (bi .eql (.struct [.int, .bool, .int]) t5_2 t11_3) fun t12_4 =>
 condM t12_4
 (M.bind (C u07 [(strip (strip a0)), (.int .u8 120)]) fun t14_5 =>
 u44 a0 t3_0)
 (M.bind (bd [(.int .i64 0), (.bool false), (.int .i64 0)] [(0, 1, (.int .i64 7))]) fun t16_6 =>
 M.bind (bi .eql (.struct [.int, .bool, .int]) t5_2 t16_6) fun t17_7 =>
 condM t17_7
 (M.bind (C u07 [(strip (strip a0)), (.int .u8 119)]) fun t19_8 =>
 u44 a0 t3_0)
 (M.bind (fa 0 t3_0) fun t7_9 =>
 M.bind (ld (some 3) false t7_9) fun t8_10 =>
 M.bind (C u28 [(strip (strip a0)), (strip t8_10)]) fun t9_11 =>
 u44 a0 t3_0))) := by
 rw [C, u00 _ _ rfl]; kernel_rfl
theorem ukl (a0 : PV) : C u6i [a0] =
 trunc (M.bind (bi .geq .none (strip a0) (.int .i64 0)) fun t4_0 =>
 M.bind (gd (strip t4_0) true (M.pure (strip a0))) fun t6_1 =>
 M.bind (gd (strip t4_0) true (bi .leq .none t6_1 (.int .i64 2147483647))) fun t7_2 =>
 M.bind (pick (strip t4_0) t7_2 (.bool false)) fun t8_3 =>
 resT t8_3 (M.pure t8_3)) := by
 rw [C, u00 _ _ rfl]; kernel_rfl
noncomputable def u59 (v0 v2 v3 : PV) : M PV := atP P X u6f [1, 1, 0, 0] (mkEnv 19 0 [(0, v0), (2, v2), (3, v3)])
theorem u8s (v0 v2 v3 : PV) : u59 v0 v2 v3 =
 M.bind (bi .gtr .none (strip v0) (.int .u64 127)) fun t5_0 =>
 condM t5_0
 (M.bind (cv (.int .u8) true (strip v0)) fun t10_1 =>
 M.bind (bi .or .none t10_1 (.int .u8 128)) fun t11_2 =>
 M.bind (bs true none [t11_2]) fun t12_3 =>
 M.bind (ap true 1 1 v3 t12_3) fun t13_4 =>
 M.bind (bi .shr .none (strip v0) (.int .u64 7)) fun t7_5 =>
 u59 t7_5 v2 t13_4)
 (M.bind (cv (.int .u8) true (strip v0)) fun t16_6 =>
 M.bind (bs true none [t16_6]) fun t17_7 =>
 M.bind (ap true 1 1 v3 t17_7) fun t18_8 =>
 resT t18_8 (M.pure t18_8)) :=
 (u05 P X _ _ _).trans (by kernel_rfl)
theorem uo4 (a0 : PV) : C u6f [a0] =
 trunc (u59 a0 (.slice false true 0 []) (.slice false true 0 [])) := by
 rw [C, u00 _ _ rfl]; kernel_rfl
theorem ubz (a0 : PV) : C u4t [a0] =
 trunc (M.bind (al [(.int .i64 0), (.slice false true 0 []), (.slice false true 0 []), (.slice false true 0 [])]) fun t2_0 =>
 M.bind (C u0h [(strip (strip a0))]) fun t6_1 =>
 M.bind (nc P (strip a0)) fun t8_2 =>
 M.bind (fa 1 t8_2) fun t9_3 =>
 M.bind (ld none false t9_3) fun t10_4 =>
 M.bind (bi .add .none t10_4 (.int .i64 1)) fun t11_5 =>
 M.bind (nc P (strip a0)) fun t12_6 =>
 M.bind (fa 1 t12_6) fun t13_7 =>
 M.bind (st 1 true t13_7 t11_5) fun _ =>
 M.bind (bi .eql .none (strip t6_1) (.int .u8 96)) fun t16_9 =>
 condM t16_9
 (M.bind (C u4l [(strip (strip a0))]) fun t18_10 =>
 M.bind (bd [(.int .i64 0), (.slice false true 0 []), (.slice false true 0 []), (.slice false true 0 [])] [(0, 1, (.int .i64 1)), (1, 1, t18_10)]) fun t19_11 =>
 M.bind (al [(.int .i64 0), (.slice false true 0 []), (.slice false true 0 []), (.slice false true 0 [])]) fun t4_12 =>
 M.bind (st 4 true t4_12 t19_11) fun _ =>
 M.bind (C u4l [(strip (strip a0))]) fun t21_14 =>
 M.bind (fa 2 t4_12) fun t22_15 =>
 M.bind (st 1 true t22_15 t21_14) fun _ =>
 M.bind (ld (some 4) true t4_12) fun t23_17 =>
 M.bind (st 4 true t2_0 t23_17) fun _ =>
 M.bind (ld (some 4) true t2_0) fun t0_19 => guardM (!isTup t0_19) (M.pure t0_19))
 (M.bind (bi .eql .none (strip t6_1) (.int .u8 95)) fun t25_20 =>
 condM t25_20
 (M.bind (mf u1o [(strip a0)] []) fun t28_21 =>
 M.bind (C u1u [(strip (strip a0)), (.int .u32 10000), (strip t28_21)]) fun t29_22 =>
 M.bind (bd [(.int .i64 0), (.slice false true 0 []), (.slice false true 0 []), (.slice false true 0 [])] [(0, 1, (.int .i64 2)), (3, 1, t29_22)]) fun t30_23 =>
 M.bind (st 4 true t2_0 t30_23) fun _ =>
 M.bind (ld (some 4) true t2_0) fun t0_25 => guardM (!isTup t0_25) (M.pure t0_25))
 (M.bind (bi .eql .none (strip t6_1) (.int .u8 94)) fun t32_26 =>
 condM t32_26
 (M.bind (C u1o [(strip (strip a0))]) fun t34_27 =>
 M.bind (bs true (some 4) [t34_27]) fun t35_28 =>
 M.bind (bd [(.int .i64 0), (.slice false true 0 []), (.slice false true 0 []), (.slice false true 0 [])] [(0, 1, (.int .i64 3)), (3, 1, t35_28)]) fun t36_29 =>
 M.bind (st 4 true t2_0 t36_29) fun _ =>
 M.bind (ld (some 4) true t2_0) fun t0_31 => guardM (!isTup t0_31) (M.pure t0_31))
 (M.bind (nc P (strip a0)) fun t39_32 =>
 M.bind (fa 1 t39_32) fun t40_33 =>
 M.bind (ld none false t40_33) fun t41_34 =>
 M.bind (bi .sub .none t41_34 (.int .i64 1)) fun t42_35 =>
 M.bind (C u04 [(strip (strip a0)), (strip t42_35), (.int .i64 4)]) fun t43_36 =>
 M.bind (bd [(.int .i64 0), (.slice false true 0 []), (.slice false true 0 []), (.slice false true 0 [])] []) fun t44_37 =>
 M.bind (st 4 true t2_0 t44_37) fun _ =>
 M.bind (ld (some 4) true t2_0) fun t0_39 => guardM (!isTup t0_39) (M.pure t0_39))))) := by
 rw [C, u00 _ _ rfl]; kernel_rfl
noncomputable def u58 (v2 v6 v8 : PV) : M PV := atP P X u3p [1, 1, 1, 1] (mkEnv 32 0 [(2, v2), (6, v6), (8, v8)])
noncomputable def u1v (v2 v6 v9 v22 v23 : PV) : M PV := atP P X u3p [1, 1, 1, 1, 1, 0, 1, 0] (mkEnv 32 0 [(2, v2), (6, v6), (9, v9), (22, v22), (23, v23)])
theorem u9n (v2 v6 v8 : PV) : u58 v2 v6 v8 =
 u1v v2 v6 (.slice false true 0 []) (strip v8) (.int .u32 0) :=
 (u05 P X _ _ _).trans (by kernel_rfl)
theorem u54 (v2 v6 v9 v22 v23 : PV) : u1v v2 v6 v9 v22 v23 =
 M.bind (bi .lss .none v23 v22) fun t24_0 =>
 condM t24_0
 (M.bind (callV P C (strip v2) []) fun t27_1 =>
 M.bind (bs true none [t27_1]) fun t28_2 =>
 M.bind (ap true 1 8 v9 t28_2) fun t29_3 =>
 M.bind (bi .add .none v23 (.int .u32 1)) fun t30_4 =>
 u1v v2 v6 t29_3 v22 (strip t30_4))
 (resT v9 (M.pure v9)) :=
 (u05 P X _ _ _).trans (by kernel_rfl)
theorem ueg (a0 a1 a2 : PV) : C u3p [a0, a1, a2] =
 trunc (M.bind (nc P (strip a0)) fun t11_0 =>
 M.bind (fa 1 t11_0) fun t12_1 =>
 M.bind (ld none true t12_1) fun t13_2 =>
 M.bind (C u1r [(strip (strip a0))]) fun t15_3 =>
 M.bind (bi .gtr .none (strip t15_3) (strip a1)) fun t18_4 =>
 condM t18_4
 (M.bind (C u04 [(strip (strip a0)), (strip (strip t13_2)), (.int .i64 2)]) fun t21_5 =>
 u58 a2 (.slice false true 0 []) t15_3)
 (u58 a2 (.slice false true 0 []) t15_3)) := by
 rw [C, u00 _ _ rfl]; kernel_rfl
theorem ubs (a0 a1 : PV) : C u2i [a0, a1] =
 trunc (M.bind (bx 3 a0) fun t2_0 =>
 M.bind (bx 3 a1) fun t3_1 =>
 M.bind (fa 0 t2_0) fun t5_2 =>
 M.bind (ld none false t5_2) fun t6_3 =>
 M.bind (fa 0 t3_1) fun t7_4 =>
 M.bind (ld none false t7_4) fun t8_5 =>
 M.bind (bi .eql .none t6_3 t8_5) fun t9_6 =>
 M.bind (gd (strip t9_6) true (fa 0 t2_0)) fun t11_7 =>
 M.bind (gd (strip t9_6) true (ld none false t11_7)) fun t12_8 =>
 M.bind (gd (strip t9_6) true (bi .neq .none t12_8 (.int .i64 5))) fun t13_9 =>
 M.bind (gd (strip t9_6) true (M.pure (strip t13_9))) fun t14_10 =>
 M.bind (gd t14_10 false (fa 1 t2_0)) fun t15_11 =>
 M.bind (gd t14_10 false (ld none false t15_11)) fun t16_12 =>
 M.bind (gd t14_10 false (fa 1 t3_1)) fun t17_13 =>
 M.bind (gd t14_10 false (ld none false t17_13)) fun t18_14 =>
 M.bind (gd t14_10 false (bi .eql .bool t16_12 t18_14)) fun t19_15 =>
 M.bind (gd t14_10 false (M.pure (strip t19_15))) fun t20_16 =>
 M.bind (gd t20_16 true (fa 2 t2_0)) fun t21_17 =>
 M.bind (gd t20_16 true (ld none false t21_17)) fun t22_18 =>
 M.bind (gd t20_16 true (fa 2 t3_1)) fun t23_19 =>
 M.bind (gd t20_16 true (ld none false t23_19)) fun t24_20 =>
 M.bind (gd t20_16 true (bi .eql .none t22_18 t24_20)) fun t25_21 =>
 M.bind (gd t14_10 false (pick t20_16 t25_21 (.bool false))) fun t26_22 =>
 M.bind (gd (strip t9_6) true (pick t14_10 (.bool true) t26_22)) fun t27_23 =>
 M.bind (pick (strip t9_6) t27_23 (.bool false)) fun t28_24 =>
 resT t28_24 (M.pure t28_24)) := by
 rw [C, u00 _ _ rfl]; kernel_rfl
noncomputable def u06 (v0 v2 : PV) : M PV := atP P X u15 [1, 0, 0] (mkEnv 169 0 [(0, v0), (2, v2)])
noncomputable def u0t (v0 v2 v3 : PV) : M PV := atP P X u15 [1, 0, 0, 0, 1, 0, 1, 0, 1, 0, 1, 1] (mkEnv 169 0 [(0, v0), (2, v2), (3, v3)])
noncomputable def u0k (v0 v2 v3 : PV) : M PV := atP P X u15 [1, 0, 0, 0, 1, 0, 1, 0, 1, 0, 1, 0, 1, 0, 1, 1, 0, 1, 0] (mkEnv 169 0 [(0, v0), (2, v2), (3, v3)])
theorem u0u (v0 v2 : PV) : u06 v0 v2 =
 M.bind (lnS (strip v0)) fun t8_0 =>
 M.bind (bi .gtr .none t8_0 (.int .i64 0)) fun t9_1 =>
 condM t9_1
 (M.bind (ixS (strip v0) (.int .i64 0)) fun t11_2 =>
 M.bind (bi .lss .none (strip t11_2) (.int .u8 128)) fun t13_3 =>
 condM t13_3
 (M.bind (slS (strip v0) (some (.int .i64 1)) none) fun t15_4 =>
 M.bind (lnS (strip t15_4)) fun t17_5 =>
 M.bind (bi .gtr .none t17_5 (.int .i64 8)) fun t18_6 =>
 M.bind (gd (strip t18_6) true (M.pure (strip t15_4))) fun t20_7 =>
 M.bind (gd (strip t18_6) true (C u0g [(strip t20_7)])) fun t21_8 =>
 M.bind (gd (strip t18_6) true (bi .and .none t21_8 (.int .u64 9259542123273814144))) fun t22_9 =>
 M.bind (gd (strip t18_6) true (bi .eql .none t22_9 (.int .u64 0))) fun t23_10 =>
 M.bind (pick (strip t18_6) t23_10 (.bool false)) fun t24_11 =>
 condM t24_11
 (M.bind (slS (strip t15_4) (some (.int .i64 8)) none) fun t26_12 =>
 nb (lnS (strip t26_12)) fun t28_13 =>
 nb (bi .gtr .none t28_13 (.int .i64 16)) fun t29_14 =>
 nb (gd (strip t29_14) true (M.pure (strip t26_12))) fun t31_15 =>
 nb (gd (strip t29_14) true (C u0g [(strip t31_15)])) fun t32_16 =>
 nb (gd (strip t29_14) true (M.pure (strip t26_12))) fun t33_17 =>
 nb (gd (strip t29_14) true (slS t33_17 (some (.int .i64 8)) none)) fun t34_18 =>
 nb (gd (strip t29_14) true (C u0g [(strip t34_18)])) fun t35_19 =>
 nb (gd (strip t29_14) true (bi .or .none t32_16 t35_19)) fun t36_20 =>
 nb (gd (strip t29_14) true (bi .and .none t36_20 (.int .u64 9259542123273814144))) fun t37_21 =>
 nb (gd (strip t29_14) true (bi .eql .none t37_21 (.int .u64 0))) fun t38_22 =>
 nb (pick (strip t29_14) t38_22 (.bool false)) fun t39_23 =>
 condM t39_23
 (M.bind (slS (strip t26_12) (some (.int .i64 16)) none) fun t41_24 =>
 u0k t41_24 v2 t11_2)
 (u0t t26_12 v2 t11_2))
 (u0t t15_4 v2 t11_2))
 (M.bind (iaA 256 1 (GT 0) (strip t11_2)) fun t66_25 =>
 M.bind (ld none true t66_25) fun t67_26 =>
 M.bind (bi .and .none (strip t67_26) (.int .u8 7)) fun t69_27 =>
 M.bind (cv (.int .i64) true t69_27) fun t70_28 =>
 M.bind (bi .shr .none (strip t67_26) (.int .u64 4)) fun t72_29 =>
 M.bind (iaA 16 2 (GT 1) t72_29) fun t73_30 =>
 M.bind (ld (some 2) true t73_30) fun t74_31 =>
 M.bind (al [(.int .u8 0), (.int .u8 0)]) fun t6_32 =>
 M.bind (st 2 true t6_32 t74_31) fun _ =>
 M.bind (bi .eql .none (strip t70_28) (.int .i64 2)) fun t77_34 =>
 condM t77_34
 (nb (lnS (strip v0)) fun t79_35 =>
 nb (bi .lss .none t79_35 (.int .i64 2)) fun t80_36 =>
 nb (gd (strip t80_36) false (M.pure (strip v0))) fun t82_37 =>
 nb (gd (strip t80_36) false (ixS t82_37 (.int .i64 1))) fun t83_38 =>
 nb (gd (strip t80_36) false (fa 0 t6_32)) fun t84_39 =>
 nb (gd (strip t80_36) false (ld none false t84_39)) fun t85_40 =>
 nb (gd (strip t80_36) false (bi .lss .none t83_38 t85_40)) fun t86_41 =>
 nb (pick (strip t80_36) (.bool true) t86_41) fun t87_42 =>
 nb (gd (strip t87_42) false (fa 1 t6_32)) fun t89_43 =>
 nb (gd (strip t87_42) false (ld none false t89_43)) fun t90_44 =>
 nb (gd (strip t87_42) false (M.pure (strip v0))) fun t91_45 =>
 nb (gd (strip t87_42) false (ixS t91_45 (.int .i64 1))) fun t92_46 =>
 nb (gd (strip t87_42) false (bi .lss .none t90_44 t92_46)) fun t93_47 =>
 nb (pick (strip t87_42) (.bool true) t93_47) fun t94_48 =>
 condM t94_48
 (M.pure (.bool false))
 (M.bind (slS (strip v0) (some (.int .i64 2)) none) fun t96_49 =>
 u06 t96_49 v2))
 (M.bind (bi .eql .none (strip t70_28) (.int .i64 3)) fun t98_50 =>
 condM t98_50
 (nb (lnS (strip v0)) fun t100_51 =>
 nb (bi .lss .none t100_51 (.int .i64 3)) fun t101_52 =>
 nb (gd (strip t101_52) false (M.pure (strip v0))) fun t103_53 =>
 nb (gd (strip t101_52) false (ixS t103_53 (.int .i64 1))) fun t104_54 =>
 nb (gd (strip t101_52) false (fa 0 t6_32)) fun t105_55 =>
 nb (gd (strip t101_52) false (ld none false t105_55)) fun t106_56 =>
 nb (gd (strip t101_52) false (bi .lss .none t104_54 t106_56)) fun t107_57 =>
 nb (pick (strip t101_52) (.bool true) t107_57) fun t108_58 =>
 nb (gd (strip t108_58) false (fa 1 t6_32)) fun t110_59 =>
 nb (gd (strip t108_58) false (ld none false t110_59)) fun t111_60 =>
 nb (gd (strip t108_58) false (M.pure (strip v0))) fun t112_61 =>
 nb (gd (strip t108_58) false (ixS t112_61 (.int .i64 1))) fun t113_62 =>
 nb (gd (strip t108_58) false (bi .lss .none t111_60 t113_62)) fun t114_63 =>
 nb (pick (strip t108_58) (.bool true) t114_63) fun t115_64 =>
 nb (gd (strip t115_64) false (M.pure (strip v0))) fun t117_65 =>
 nb (gd (strip t115_64) false (ixS t117_65 (.int .i64 2))) fun t118_66 =>
 nb (gd (strip t115_64) false (bi .lss .none t118_66 (.int .u8 128))) fun t119_67 =>
 nb (pick (strip t115_64) (.bool true) t119_67) fun t120_68 =>
 nb (gd (strip t120_68) false (M.pure (strip v0))) fun t122_69 =>
 nb (gd (strip t120_68) false (ixS t122_69 (.int .i64 2))) fun t123_70 =>
 nb (gd (strip t120_68) false (bi .lss .none (.int .u8 191) t123_70)) fun t124_71 =>
 nb (pick (strip t120_68) (.bool true) t124_71) fun t125_72 =>
 condM t125_72
 (M.pure (.bool false))
 (M.bind (slS (strip v0) (some (.int .i64 3)) none) fun t127_73 =>
 u06 t127_73 v2))
 (M.bind (bi .eql .none (strip t70_28) (.int .i64 4)) fun t129_74 =>
 condM t129_74
 (nb (lnS (strip v0)) fun t131_75 =>
 nb (bi .lss .none t131_75 (.int .i64 4)) fun t132_76 =>
 nb (gd (strip t132_76) false (M.pure (strip v0))) fun t134_77 =>
 nb (gd (strip t132_76) false (ixS t134_77 (.int .i64 1))) fun t135_78 =>
 nb (gd (strip t132_76) false (fa 0 t6_32)) fun t136_79 =>
 nb (gd (strip t132_76) false (ld none false t136_79)) fun t137_80 =>
 nb (gd (strip t132_76) false (bi .lss .none t135_78 t137_80)) fun t138_81 =>
 nb (pick (strip t132_76) (.bool true) t138_81) fun t139_82 =>
 nb (gd (strip t139_82) false (fa 1 t6_32)) fun t141_83 =>
 nb (gd (strip t139_82) false (ld none false t141_83)) fun t142_84 =>
 nb (gd (strip t139_82) false (M.pure (strip v0))) fun t143_85 =>
 nb (gd (strip t139_82) false (ixS t143_85 (.int .i64 1))) fun t144_86 =>
 nb (gd (strip t139_82) false (bi .lss .none t142_84 t144_86)) fun t145_87 =>
 nb (pick (strip t139_82) (.bool true) t145_87) fun t146_88 =>
 nb (gd (strip t146_88) false (M.pure (strip v0))) fun t148_89 =>
 nb (gd (strip t146_88) false (ixS t148_89 (.int .i64 2))) fun t149_90 =>
 nb (gd (strip t146_88) false (bi .lss .none t149_90 (.int .u8 128))) fun t150_91 =>
 nb (pick (strip t146_88) (.bool true) t150_91) fun t151_92 =>
 nb (gd (strip t151_92) false (M.pure (strip v0))) fun t153_93 =>
 nb (gd (strip t151_92) false (ixS t153_93 (.int .i64 2))) fun t154_94 =>
 nb (gd (strip t151_92) false (bi .lss .none (.int .u8 191) t154_94)) fun t155_95 =>
 nb (pick (strip t151_92) (.bool true) t155_95) fun t156_96 =>
 nb (gd (strip t156_96) false (M.pure (strip v0))) fun t158_97 =>
 nb (gd (strip t156_96) false (ixS t158_97 (.int .i64 3))) fun t159_98 =>
 nb (gd (strip t156_96) false (bi .lss .none t159_98 (.int .u8 128))) fun t160_99 =>
 nb (pick (strip t156_96) (.bool true) t160_99) fun t161_100 =>
 nb (gd (strip t161_100) false (M.pure (strip v0))) fun t163_101 =>
 nb (gd (strip t161_100) false (ixS t163_101 (.int .i64 3))) fun t164_102 =>
 nb (gd (strip t161_100) false (bi .lss .none (.int .u8 191) t164_102)) fun t165_103 =>
 nb (pick (strip t161_100) (.bool true) t165_103) fun t166_104 =>
 condM t166_104
 (M.pure (.bool false))
 (M.bind (slS (strip v0) (some (.int .i64 4)) none) fun t168_105 =>
 u06 t168_105 v2))
 (M.pure (.bool false))))))
 (M.pure (.bool true)) :=
 (u05 P X _ _ _).trans (by kernel_rfl)
theorem u09 (v0 v2 v3 : PV) : u0t v0 v2 v3 =
 u06 v0 v2 :=
 (u05 P X _ _ _).trans (by kernel_rfl)
theorem u3i (v0 v2 v3 : PV) : u0k v0 v2 v3 =
 nb (lnS (strip v0)) fun t43_0 =>
 nb (bi .gtr .none t43_0 (.int .i64 32)) fun t44_1 =>
 nb (gd (strip t44_1) true (M.pure (strip v0))) fun t46_2 =>
 nb (gd (strip t44_1) true (C u0g [(strip t46_2)])) fun t47_3 =>
 nb (gd (strip t44_1) true (M.pure (strip v0))) fun t48_4 =>
 nb (gd (strip t44_1) true (slS t48_4 (some (.int .i64 8)) none)) fun t49_5 =>
 nb (gd (strip t44_1) true (C u0g [(strip t49_5)])) fun t50_6 =>
 nb (gd (strip t44_1) true (bi .or .none t47_3 t50_6)) fun t51_7 =>
 nb (gd (strip t44_1) true (M.pure (strip v0))) fun t52_8 =>
 nb (gd (strip t44_1) true (slS t52_8 (some (.int .i64 16)) none)) fun t53_9 =>
 nb (gd (strip t44_1) true (C u0g [(strip t53_9)])) fun t54_10 =>
 nb (gd (strip t44_1) true (M.pure (strip v0))) fun t55_11 =>
 nb (gd (strip t44_1) true (slS t55_11 (some (.int .i64 24)) none)) fun t56_12 =>
 nb (gd (strip t44_1) true (C u0g [(strip t56_12)])) fun t57_13 =>
 nb (gd (strip t44_1) true (bi .or .none t54_10 t57_13)) fun t58_14 =>
 nb (gd (strip t44_1) true (bi .or .none t51_7 t58_14)) fun t59_15 =>
 nb (gd (strip t44_1) true (bi .and .none t59_15 (.int .u64 9259542123273814144))) fun t60_16 =>
 nb (gd (strip t44_1) true (bi .eql .none t60_16 (.int .u64 0))) fun t61_17 =>
 nb (pick (strip t44_1) t61_17 (.bool false)) fun t62_18 =>
 condM t62_18
 (M.bind (slS (strip v0) (some (.int .i64 32)) none) fun t64_19 =>
 u0k t64_19 v2 v3)
 (u0t v0 v2 v3) :=
 (u05 P X _ _ _).trans (by kernel_rfl)
theorem u8c (a0 : PV) : C u15 [a0] =
 trunc (u06 a0 (.bool false)) := by
 rw [C, u00 _ _ rfl]; kernel_rfl
theorem uem (a0 a1 : PV) : C u61 [a0, a1] =
 trunc (condM (strip a1)
 (M.bind (C u07 [(strip (strip a0)), (.int .u8 1)]) fun t6_0 =>
 M.pure (.tup []))
 (M.bind (C u07 [(strip (strip a0)), (.int .u8 0)]) fun t8_1 =>
 M.pure (.tup []))) := by
 rw [C, u00 _ _ rfl]; kernel_rfl
theorem u8j (a0 a1 a2 a3 : PV) : C u3l [a0, a1, a2, a3] =
 trunc (M.bind (C u6c [(strip (strip a0)), (strip (strip a1)), (strip (strip a2))]) fun t19_0 =>
 M.bind (ex 0 t19_0) fun t20_1 =>
 M.bind (ex 1 (tupDrop 0 t19_0)) fun t21_2 =>
 M.bind (al [(.slice false true 0 []), (.int .i64 0), (.int .i64 0)]) fun t11_3 =>
 M.bind (st 3 true t11_3 t20_1) fun _ =>
 M.bind (bi .neq .none (strip t21_2) (.int .i64 0)) fun t23_5 =>
 condM t23_5
 (resT t21_2 (M.pure (.tup [(.int .u64 0), (.int .i64 0), t21_2])))
 (M.bind (ld (some 3) false t11_3) fun t27_6 =>
 M.bind (callV P C (strip a3) [(strip t27_6)]) fun t28_7 =>
 M.bind (ex 0 t28_7) fun t29_8 =>
 M.bind (ex 1 (tupDrop 0 t28_7)) fun t30_9 =>
 M.bind (ex 2 (tupDrop 1 (tupDrop 0 t28_7))) fun t31_10 =>
 resT t29_8 (resT t30_9 (resT t31_10 (M.pure (.tup [t29_8, t30_9, t31_10])))))) := by
 rw [C, u00 _ _ rfl]; kernel_rfl
theorem utk (a0 : PV) : C uds [a0] =
 trunc (M.bind (bx 3 a0) fun t1_0 =>
 M.bind (ld (some 3) false t1_0) fun t5_1 =>
 M.bind (C u1i [(strip t5_1), (.int .i64 64)]) fun t6_2 =>
 M.bind (ex 0 t6_2) fun t7_3 =>
 M.bind (ex 1 (tupDrop 0 t6_2)) fun t8_4 =>
 M.bind (ex 2 (tupDrop 1 (tupDrop 0 t6_2))) fun t9_5 =>
 resT t7_3 (resT t8_4 (resT t9_5 (M.pure (.tup [t7_3, t8_4, t9_5]))))) := by
 rw [C, u00 _ _ rfl]; kernel_rfl
theorem u83 (a0 a1 a2 a3 : PV) : C u3g [a0, a1, a2, a3] =
 trunc (M.bind (C u6c [(strip (strip a0)), (strip (strip a1)), (strip (strip a2))]) fun t19_0 =>
 M.bind (ex 0 t19_0) fun t20_1 =>
 M.bind (ex 1 (tupDrop 0 t19_0)) fun t21_2 =>
 M.bind (al [(.slice false true 0 []), (.int .i64 0), (.int .i64 0)]) fun t11_3 =>
 M.bind (st 3 true t11_3 t20_1) fun _ =>
 M.bind (bi .neq .none (strip t21_2) (.int .i64 0)) fun t23_5 =>
 condM t23_5
 (resT t21_2 (M.pure (.tup [(.int .u32 0), (.int .i64 0), t21_2])))
 (M.bind (ld (some 3) false t11_3) fun t27_6 =>
 M.bind (callV P C (strip a3) [(strip t27_6)]) fun t28_7 =>
 M.bind (ex 0 t28_7) fun t29_8 =>
 M.bind (ex 1 (tupDrop 0 t28_7)) fun t30_9 =>
 M.bind (ex 2 (tupDrop 1 (tupDrop 0 t28_7))) fun t31_10 =>
 M.bind (cv (.int .u32) true (strip t29_8)) fun t33_11 =>
 resT t33_11 (resT t30_9 (resT t31_10 (M.pure (.tup [t33_11, t30_9, t31_10])))))) := by
 rw [C, u00 _ _ rfl]; kernel_rfl
end Go.Proofs.YthnmienjiangkaaGreatDoor.Pi.Q
