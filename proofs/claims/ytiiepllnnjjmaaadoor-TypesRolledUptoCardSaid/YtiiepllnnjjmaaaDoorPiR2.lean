/- What the law rests on, part 3 of 4: a reading of the program's code over told data, and what it comes to. -/
import Derived.Test.YtiiepllnnjjmaaaDoorPiR1
set_option linter.unusedVariables false
set_option linter.unusedSimpArgs false
set_option maxRecDepth 100000
namespace Go.Proofs.YtiiepllnnjjmaaaDoor.Pi
variable {g : G} {L L' : Owner} {w w' : World} {H : Heap} {x : Nat} {env : Env}
def Ex.to : Ex → Exit
  | .normal => .normal
  | .exit id => .exit id
  | .ret => .ret
def KLeaf (CDN : Option PV → CallT) (c : Ctx) (g0 : G) (w0 : World) (out : Out PV) (k : K) (Q : Exit → Act → World → Prop) : Prop := ∀ e, Leaf CDN c g0 w0 out (k e) (Q e.to)
theorem u7v (l : List Tmp) : ∀ (i : Nat) (env : Env) (t : Nat), (u4a l i env)[t]? = (env[t]?).map fun v => bif l.contains (i + t) then v else .undef
  | i, [], t => by simp [u4a]
  | i, v :: r, t => by
    cases t with
    | zero => simp [u4a]
    | succ t =>
      simp only [u4a, List.getElem?_cons_succ]
      rw [u7v l (i + 1) r t]
      simp [Nat.add_assoc, Nat.add_comm 1 t]
theorem ucn (l : List Tmp) (env : Env) (t : Nat) : (keep l env)[t]? = (env[t]?).map fun v => bif l.contains t then v else .undef := by
  unfold keep
  rw [u7v]
  simp
theorem ufn (l : List Tmp) (env : Env) : (keep l env).length = env.length := by
  have h1 : ∀ (i : Nat) (env : Env), (u4a l i env).length = env.length := by
    intro i env
    induction env generalizing i with
    | nil => rfl
    | cons v r ih => simp [u4a, ih]
  exact h1 0 env
theorem Sta.keep {c : Ctx} {a : Act} {Δ : List Dfr} (h : Sta c g H env a w Δ) {l : List Tmp} (hp : ∀ t ∈ c.prot, t ∈ l) : Sta c g H (keep l env) a w Δ := by
  refine ⟨h.inv, ⟨h.tok.one, by rw [ufn]; exact h.tok.len, fun t v p hv hp' => ?_, fun t p ht hp' => ?_⟩, h.defs.step (fun _ _ h => h) (fun _ _ _ h => h) (fun t ht id off he => ?_)⟩
  · rw [ucn] at hp'
    obtain ⟨q, hq, rfl⟩ := Option.map_eq_some_iff.mp hp'
    cases l.contains t
    · exact .one (.undef _)
    · exact h.tok.val t v q hv hq
  · rw [ucn] at hp'
    obtain ⟨q, hq, rfl⟩ := Option.map_eq_some_iff.mp hp'
    cases l.contains t
    · exact .inl rfl
    · exact h.tok.slot t q ht hq
  · have h1 : l.contains t = true := List.contains_iff_mem.mpr (hp t ht)
    rw [List.getD_eq_getElem?_getD] at he ⊢
    rw [ucn]
    cases hv : env[t]? with
    | none => rw [hv] at he; simp at he
    | some v =>
      rw [hv] at he
      simp only [Option.map_some, h1, cond_true]
      exact he
def LSound (CDN : Option PV → CallT) (c : Ctx) (L : LoopT) : Prop :=
  ∀ (af : List Tmp) (b : Code) (k : K) (Q : Exit → Act → World → Prop) (g0 : G) (w0 : World) (out : Out PV), (∀ t ∈ c.prot, t ∈ af) → KLeaf CDN c g0 w0 out k Q → ua3 CDN c g0 w0 out (fun ch => Q (.panic ch)) →
    ∀ env a w g H Δ o, Glob g0 w0 g w → Sta c g H env a w Δ → L af b env k H = some o → unw CDN Δ o = some out → b.wp c.P Q a w
variable {c : Ctx} {CDN : Option PV → CallT}
theorem u4g (g : G) (w : World) : Glob g w g { w with drawn := w.drawn + 1 } := ⟨rfl, rfl, rfl, Nat.le_refl _, fun _ _ h k => ⟨h, k, rfl⟩, Grow.refl _ _⟩
theorem Sta.drew {a : Act} {Δ : List Dfr} (h : Sta c g H env a w Δ) : Sta c g H env a { w with drawn := w.drawn + 1 } Δ :=
  ⟨⟨h.inv.len, h.inv.nd, h.inv.im, h.inv.ow, fun id b x hb hx => by
    have := h.inv.box id b x hb hx
    cases x <;> exact this, h.inv.gl⟩, h.tok, h.defs⟩
theorem u3s (hC : CSound c.P c.C) (hrc : c.rc = none) (hle : ∀ r f a, Le (c.CD r f a) (CDN r f a)) {L : LoopT} (hL : LSound CDN c L) :
    ∀ (co : Code) (af : List Tmp) (k : K) (Q : Exit → Act → World → Prop) (g0 : G) (w0 : World) (out : Out PV), (∀ t ∈ c.prot, t ∈ af) → KLeaf CDN c g0 w0 out k Q → ua3 CDN c g0 w0 out (fun ch => Q (.panic ch)) →
      ∀ env a w g H Δ o, Glob g0 w0 g w → Sta c g H env a w Δ → den c L af co env k H = some o → unw CDN Δ o = some out → co.wp c.P Q a w
  | .skip, af, k, Q, g0, w0, out, hp, hk, hpl, env, a, w, g, H, Δ, o, hgl, hS, h, hu => wp_skip (hk .normal Δ o g H env a w h hu hgl hS)
  | .label l, af, k, Q, g0, w0, out, hp, hk, hpl, env, a, w, g, H, Δ, o, hgl, hS, h, hu => wp_label (hk .normal Δ o g H env a w h hu hgl hS)
  | .ret, af, k, Q, g0, w0, out, hp, hk, hpl, env, a, w, g, H, Δ, o, hgl, hS, h, hu => wp_ret (hk .ret Δ o g H env a w h hu hgl hS)
  | .exit id, af, k, Q, g0, w0, out, hp, hk, hpl, env, a, w, g, H, Δ, o, hgl, hS, h, hu => wp_exit (hk (.exit id) Δ o g H env a w h hu hgl hS)
  | .region id ops true, af, k, Q, g0, w0, out, hp, hk, hpl, env, a, w, g, H, Δ, o, hgl, hS, h, hu => by
    have h : guardM (c.P.follows .mixedOrders && commB ops) (bif modeA ops && (c.rc.isNone && c.prot.isEmpty) then dOpsAA c ops env (k .normal) else bif modeP ops && c.rc.isNone then dOpsP c ops env (k .normal) else bif ops.any u14 || c.rc.isSome then dOpsW c ops 0 [] ops.toList env (k .normal) else dOpsN c ops ops.toList env (k .normal)) H = some o := h
    obtain ⟨hg, h⟩ := u03 h
    simp only [Bool.and_eq_true] at hg
    have hall : restOf ops (Array.replicate ops.size false) = List.range' 0 ops.toList.length := by
      unfold restOf
      rw [List.filter_eq_self.mpr, List.range_eq_range', Array.length_toList]
      intro i hi
      simp [Array.getD_eq_getD_getElem?, List.mem_range.mp hi]
    cases hba : (modeA ops && (c.rc.isNone && c.prot.isEmpty)) with
    | true =>
      rw [hba] at h
      have h : dOpsAA c ops env (k .normal) H = some o := h
      simp only [Bool.and_eq_true] at hba
      obtain ⟨hma, _, hprot⟩ := hba
      have hprot : c.prot = [] := List.isEmpty_iff.mp hprot
      obtain ⟨a1, a2, hals, h⟩ := uf8 h
      have hcons := uil hma hals
      · obtain ⟨e2, H2, e1, H1, q2, q1, hsw, hx⟩ := chkA_some.mp h
        obtain ⟨e1', H1', L1, l1, _, l3, l4, hk'⟩ := uby _ _ _ _ hx
        obtain ⟨e1'', H1'', L1', l1', _, l3', l4', hp1⟩ := uby _ _ _ _ q1
        obtain ⟨e2'', H2'', L2, m1, _, m3, m4, hp2⟩ := uby _ _ _ _ q2
        have hp1 : some (Out.ok e1'' H1'') = some (Out.ok e1 H1) := hp1
        have hp2 : some (Out.ok e2'' H2'') = some (Out.ok e2 H2) := hp2
        simp only [Option.some.injEq, Out.ok.injEq] at hp1 hp2
        obtain ⟨rfl, rfl⟩ := hp1
        obtain ⟨rfl, rfl⟩ := hp2
        obtain ⟨rfl, rfl⟩ := ugj l4 l4' (l1.trans l1'.symm)
        have hal : ∀ i o, ops[i]? = some o → isAl o = true → i = a1 ∨ i = a2 := fun i o hi ho => by
          have hm : i ∈ alsOf ops := by
            unfold alsOf
            rw [List.mem_filter]
            exact ⟨List.mem_range.mpr (Array.getElem?_eq_some_iff.mp hi).1, by rw [hi]; exact ho⟩
          rw [hals] at hm
          simpa using hm
        have hsorted : (alsOf ops).Pairwise (· < ·) := by unfold alsOf; exact List.pairwise_lt_range.filter _
        rw [hals] at hsorted
        have h12 : a1 < a2 := by simpa using hsorted
        have hmem : ∀ i ∈ [a1, a2], i < ops.size := fun i hi => by
          rw [← hals] at hi
          unfold alsOf at hi
          exact List.mem_range.mp (List.mem_filter.mp hi).1
        have hlen0 := hS.inv.len
        refine wp_region_any hg.1 (u4o hC hg.2 (R := RB c ops a1 a2 e1' H1' e2'' H2'') (Δ := Δ) (g0 := g0) (w0 := w0) (fun A i B oi e K hi ha hnb hR => RB.front hg.2 h12 hal hcons A i B oi e K hi ha hnb hR) (fun e K gf af wf hR hglf hSf => ?_) ops.size _ env H a _ g (by simp) ?_ ?_ ?_ (hgl.trans (u4g g w)) hS.drew)
        · obtain ⟨_, _, hR⟩ := hR
          rcases hR with ⟨h1, _⟩ | ⟨_, hR | hR⟩
          · cases h1
          · obtain ⟨rfl, rfl⟩ := hR.nil
            exact hk .normal Δ o gf K e af wf hk' hu hglf hSf
          · obtain ⟨rfl, rfl⟩ := hR.nil
            have hlf : gf.ι.length = H.length + 2 := by
              rw [hSf.inv.len]
              obtain ⟨H0, x1, x2, hn, _, hH2, _⟩ := hsw
              rw [hH2]
              simp [hn]
            exact hk .normal Δ o (swG gf H.length) H1' e1' af wf hk' hu (uja hlf hlen0 hgl.up hglf) (umq hprot hsw hSf)
        · exact Nat.le_trans (List.length_filter_le _ _) (by simp)
        · intro j i hj hl
          simp [Array.getD_eq_getD_getElem?, hj] at hl
        · rw [hall, Array.length_toList, ← List.range_eq_range']
          refine ⟨List.pairwise_lt_range, fun i hi => List.mem_range.mp hi, .inl ⟨List.mem_range.mpr (hmem a1 (by simp)), List.mem_range.mpr (hmem a2 (by simp)), ⟨L1, l1, l3, l4⟩, ⟨L2, m1, m3, m4⟩⟩⟩
    | false =>
    rw [hba] at h
    cases hbp : (modeP ops && c.rc.isNone) with
    | true =>
      rw [hbp] at h
      have h : dOpsP c ops env (k .normal) H = some o := h
      unfold dOpsP at h
      cases hlb : lastB ops with
      | true =>
        rw [hlb] at h
        obtain ⟨e', H', hRL, hk'⟩ := u8z hg.2 h
        unfold u5j at hk'
        cases hol : ops[ops.size - 1]? with
        | none => rw [hol] at hk'; exact (u00 (H := H') hk').elim
        | some ol =>
          rw [hol] at hk'
          obtain ⟨hok, hk'⟩ := u03 hk'
          have hb : M.bind (gval c.P c.C c.rc ops e' ol) (fun v => k .normal (put c.rc ops e' ol v)) H' = some o := hk'
          have hn0 : 0 < ops.size := by
            rcases Nat.eq_zero_or_pos ops.size with h0 | h0
            · rw [Array.getElem?_eq_none (by omega)] at hol; cases hol
            · exact h0
          cases hgv : gval c.P c.C c.rc ops e' ol H' with
          | none => unfold M.bind at hb; rw [hgv] at hb; simp at hb
          | some o1 =>
            unfold M.bind at hb
            rw [hgv] at hb
            refine wp_region_any hg.1 (uav hC hg.2 (R := RP c ops e' H' o1) (PQ := fun v K => o1 = .pan v K) (Δ := Δ) (g0 := g0) (w0 := w0) (fun A i B oi e K hi ha hnb hR => RP.front hlb hol hok hgv A i B oi e K hi hnb hR) (fun e K g a w hR hgl hS => ?_) (fun v K g e a w cv he hgl hS hr => ?_) ops.size _ env H a _ g (by simp) ?_ ?_ ?_ (hgl.trans (u4g g w)) hS.drew)
            · rcases hR with ⟨A, hA, _⟩ | ⟨_, v, o', ho', he, rfl⟩
              · simp at hA
              · rw [hol] at ho'
                cases ho'
                subst he
                exact hk .normal Δ o g K _ a w hb hu hgl hS
            · subst he
              simp only [Option.some.injEq] at hb
              subst hb
              exact hpl Δ v K g e a w cv hu hgl hS hr
            · exact Nat.le_trans (List.length_filter_le _ _) (by simp)
            · intro j i hj hl
              simp [Array.getD_eq_getD_getElem?, hj] at hl
            · rw [hall, Array.length_toList, ← List.range_eq_range']
              refine .inl ⟨List.range (ops.size - 1), ?_, fun k hk => List.mem_range.mp hk, hRL⟩
              rw [← List.range_succ]
              congr 1
              omega
      | false =>
        rw [hlb] at h
        obtain ⟨e', H', hRL, hk'⟩ := u8z hg.2 h
        refine wp_region_any hg.1 (u4o hC hg.2 (R := RL c ops e' H') (Δ := Δ) (g0 := g0) (w0 := w0) (fun A i B oi e K hi ha hnb hR => RL.front A i B oi e K hi hnb hR) (fun e K g a w hR hgl hS => ?_) ops.size _ env H a _ g (by simp) ?_ ?_ ?_ (hgl.trans (u4g g w)) hS.drew)
        · obtain ⟨rfl, rfl⟩ := hR.nil
          exact hk .normal Δ o g K e a w hk' hu hgl hS
        · exact Nat.le_trans (List.length_filter_le _ _) (by simp)
        · intro j i hj hl
          simp [Array.getD_eq_getD_getElem?, hj] at hl
        · rw [hall, Array.length_toList, ← List.range_eq_range']
          exact hRL
    | false =>
    rw [hbp] at h
    cases hbr : (ops.any u14 || c.rc.isSome) with
    | true =>
      rw [hbr] at h
      obtain ⟨e', H', L, l1, _, l3, l4, hk'⟩ := ufh ops.toList [] 0 env H (fun j => by simp) h
      refine wp_region_any hg.1 (u4o hC hg.2 (R := RW c ops e' H') (Δ := Δ) (g0 := g0) (w0 := w0) (fun A i B oi e K hi ha hnb hR => RW.front hg.2 A i B oi e K hi ha hnb hR) (fun e K g a w hR hgl hS => ?_) ops.size _ env H a _ g (by simp) ?_ ?_ ?_ (hgl.trans (u4g g w)) hS.drew)
      · obtain ⟨rfl, rfl⟩ := hR.nil
        exact hk .normal Δ o g K e a w hk' hu hgl hS
      · exact Nat.le_trans (List.length_filter_le _ _) (by simp)
      · intro j i hj hl
        simp [Array.getD_eq_getD_getElem?, hj] at hl
      · rw [hall]
        exact ⟨L, l1, l3, l4⟩
    | false =>
      rw [hbr] at h
      obtain ⟨e', hrun, hk'⟩ := uk0 ops.toList 0 env (fun j => by simp) h
      refine wp_region_any hg.1 (ulx hC hg.2 (e' := e') (Δ := Δ) (g0 := g0) (w0 := w0) (fun g a w hgl hS => hk .normal Δ o g H e' a w hk' hu hgl hS) ops.size _ env a _ g (by simp) ?_ ?_ ?_ (hgl.trans (u4g g w)) hS.drew)
      · exact Nat.le_trans (List.length_filter_le _ _) (by simp)
      · intro j i hj hl
        simp [Array.getD_eq_getD_getElem?, hj] at hl
      · rw [hall]
        exact hrun
  | .region id ops false, af, k, Q, g0, w0, out, hp, hk, hpl, env, a, w, g, H, Δ, o, hgl, hS, h, hu => by
    refine wp_region ?_
    have := u7m (Q := Q) hC hrc hle (hk .normal) hpl ops.toList 0 env a w g H Δ o (fun j => by simp) hgl hS h hu
    rwa [List.range_eq_range', ← Array.length_toList]
  | .seq x y, af, k, Q, g0, w0, out, hp, hk, hpl, env, a, w, g, H, Δ, o, hgl, hS, h, hu => by
    refine wp_seq ?_
    refine u3s hC hrc hle hL x ((rw y).1 ++ af) _ (Exit.then (y.wp c.P Q) Q) g0 w0 out (fun t ht => List.mem_append_right _ (hp t ht)) (fun e => ?_) hpl env a w g H Δ o hgl hS h hu
    cases e with
    | normal =>
      intro Δ o g H env a w h hu hgl hS
      have h : (bif c.rc.isNone && joinB x then L af y (keep ((rw y).1 ++ af) env) k else den c L af y env k) H = some o := h
      cases hj : (c.rc.isNone && joinB x) with
      | false =>
        rw [hj] at h
        exact u3s hC hrc hle hL y af k Q g0 w0 out hp hk hpl _ a w g H Δ o hgl hS h hu
      | true =>
        rw [hj] at h
        exact hL af y k Q g0 w0 out hp hk hpl _ a w g H Δ o hgl (hS.keep (fun t ht => List.mem_append_right _ (hp t ht))) h hu
    | exit id => exact hk (.exit id)
    | ret => exact hk .ret
  | .cond q x y, af, k, Q, g0, w0, out, hp, hk, hpl, env, a, w, g, H, Δ, o, hgl, hS, h, hu => by
    have rq := ev_rep hS.inv hS.tok q
    have h : condM (ev env q) (den c L af x env k) (den c L af y env k) H = some o := h
    unfold condM at h
    cases hv : ev env q with
    | bool b =>
      rw [hv] at h rq
      have hq := rq.bool
      dsimp only at h
      refine wp_cond hq ?_
      cases b
      · exact u3s hC hrc hle hL y af k Q g0 w0 out hp hk hpl env a w g H Δ o hgl hS h hu
      · exact u3s hC hrc hle hL x af k Q g0 w0 out hp hk hpl env a w g H Δ o hgl hS h hu
    | _ => (rw [hv] at h; exact (u00 (H := H) h).elim)
  | .block id b, af, k, Q, g0, w0, out, hp, hk, hpl, env, a, w, g, H, Δ, o, hgl, hS, h, hu => by
    refine wp_block ?_
    refine u3s hC hrc hle hL b af _ (Exit.inBlock id Q) g0 w0 out hp (fun e => ?_) hpl env a w g H Δ o hgl hS h hu
    cases e with
    | normal => exact hk .normal
    | ret => exact hk .ret
    | exit i =>
      intro Δ o g H env a w h hu hgl hS
      by_cases hi : i = id
      · subst hi
        have h : (bif i == i then k .normal env else k (.exit i) env) H = some o := h
        rw [beq_self_eq_true] at h
        show if i = i then Q .normal a w else Q (.exit i) a w
        rw [if_pos rfl]
        exact hk .normal Δ o g H env a w h hu hgl hS
      · have h : (bif i == id then k .normal env else k (.exit i) env) H = some o := h
        have hb : (i == id) = false := by simpa using hi
        rw [hb] at h
        show if i = id then Q .normal a w else Q (.exit i) a w
        rw [if_neg hi]
        exact hk (.exit i) Δ o g H env a w h hu hgl hS
  | .loop b, af, k, Q, g0, w0, out, hp, hk, hpl, env, a, w, g, H, Δ, o, hgl, hS, h, hu =>
    hL af (.loop b) k Q g0 w0 out hp hk hpl _ a w g H Δ o hgl (hS.keep (fun t ht => List.mem_append_right _ (hp t ht))) h hu
  | .rangeFunc .., af, k, Q, g0, w0, out, hp, hk, hpl, env, a, w, g, H, Δ, o, hgl, hS, h, hu => (u00 (H := H) h).elim
  | .scope _, af, k, Q, g0, w0, out, hp, hk, hpl, env, a, w, g, H, Δ, o, hgl, hS, h, hu => (u00 (H := H) h).elim
  | .goto _, af, k, Q, g0, w0, out, hp, hk, hpl, env, a, w, g, H, Δ, o, hgl, hS, h, hu => (u00 (H := H) h).elim
  | .refuse _, af, k, Q, g0, w0, out, hp, hk, hpl, env, a, w, g, H, Δ, o, hgl, hS, h, hu => (u00 (H := H) h).elim
theorem u5g (p : Nat → Prop) (h : ∃ n, p n) : ∃ n, p n ∧ ∀ m, p m → n ≤ m := by
  obtain ⟨n, hn⟩ := h
  induction n using Nat.strongRecOn with
  | _ n ih =>
    by_cases hl : ∃ m, m < n ∧ p m
    · obtain ⟨m, hm, hp⟩ := hl
      exact ih m hm hp
    · exact ⟨n, hn, fun m hm => by
        rcases Nat.lt_or_ge m n with h | h
        · exact absurd ⟨m, h, hm⟩ hl
        · exact h⟩
noncomputable def least (p : Nat → Prop) (h : ∃ n, p n) : Nat := Classical.choose (u5g p h)
theorem uik (p : Nat → Prop) (h : ∃ n, p n) : p (least p h) := (Classical.choose_spec (u5g p h)).1
theorem um9 (p : Nat → Prop) (h : ∃ n, p n) {m : Nat} (hm : p m) : least p h ≤ m := (Classical.choose_spec (u5g p h)).2 m hm
section
variable {P : Program} {X : ExtT}
variable {pr : List Tmp} {C1 C2 : CallT} {D1 D2 : Option PV → CallT} {rc : Option (Option PV)} {res : Env → M PV}
theorem uh9 : ∀ {Δ : List Dfr} {ds : List Deferred}, DefsOk ⟨P, pr, C1, D1, rc, res⟩ g env Δ ds → DefsOk ⟨P, pr, C2, D2, rc, res⟩ g env Δ ds
  | [], [], h => h
  | q :: Δ, δ :: ds, h => ⟨h.1, h.2.1, uh9 h.2.2⟩
  | [], _ :: _, h => h
  | _ :: _, [], h => h
theorem u6p {a : Act} {Δ : List Dfr} (h : Sta ⟨P, pr, C1, D1, rc, res⟩ g H env a w Δ) : Sta ⟨P, pr, C2, D2, rc, res⟩ g H env a w Δ := ⟨h.inv, h.tok, uh9 h.defs⟩
theorem u76 {g0 : G} {w0 : World} {out : Out PV} {k : Env → M PV} {Q : Act → World → Prop} (h : Leaf CDN ⟨P, pr, C1, D1, rc, res⟩ g0 w0 out k Q) : Leaf CDN ⟨P, pr, C2, D2, rc, res⟩ g0 w0 out k Q :=
  fun Δ o g H env a w h1 h2 h3 h4 => h Δ o g H env a w h1 h2 h3 (u6p h4)
theorem u4s {g0 : G} {w0 : World} {out : Out PV} {Q : List PanicEntry → Act → World → Prop} (h : ua3 CDN ⟨P, pr, C1, D1, rc, res⟩ g0 w0 out Q) : ua3 CDN ⟨P, pr, C2, D2, rc, res⟩ g0 w0 out Q :=
  fun Δ v H g env a w cv h1 h2 h4 h5 => h Δ v H g env a w cv h1 h2 (u6p h4) h5
theorem uka (n : Nat) (r : Option PV) (f : FuncId) (a : List PV) : ∀ {m : Nat}, n ≤ m → Le ((sem P X n).CD r f a) ((sem P X m).CD r f a) := by
  intro m h
  induction h with
  | refl => exact Le.refl _
  | step _ ih => exact fun H q hq => (u4z P X _).CD r f a H q (ih H q hq)
theorem uiz (N : Nat) (hCs : ∀ m, m < N → CSound P (sem P X m).C) (C0 : CallT) (D0 : Option PV → CallT) (CDN : Option PV → CallT)
    (hle : ∀ m, m < N → ∀ r f a, Le ((sem P X m).CD r f a) (CDN r f a)) (n : Nat) (hn : n ≤ N) : LSound CDN ⟨P, pr, C0, D0, none, res⟩ ((sem P X n).L none pr res) := by
  induction n using Nat.strongRecOn with
  | _ n ih =>
  intro af co k Q g0 w0 out hp hk hpl env a w g H Δ o hgl hS h hu
  classical
  by_cases hco : ∃ b, co = .loop b
  case neg =>
    cases n with
    | zero => exact (u00 (H := H) h).elim
    | succ m =>
      have h : den ⟨P, pr, (sem P X m).C, (sem P X m).CD, none, res⟩ ((sem P X m).L none pr res) af co env k H = some o := by
        cases co with
        | loop b => exact absurd ⟨b, rfl⟩ hco
        | _ => exact h
      refine u3s (c := ⟨P, pr, (sem P X m).C, (sem P X m).CD, none, res⟩) (CDN := CDN) (hCs m (by omega)) rfl (hle m (by omega)) (L := (sem P X m).L none pr res) ?_ co af _ _ g0 w0 out hp (fun e => u76 (hk e)) (u4s hpl) env a w g H Δ o hgl (u6p hS) h hu
      intro af' b' k' Q' g0' w0' out' hp' hk' hpl' env' a' w' g' H' Δ' o' hgl' hS' h' hu'
      exact ih m (by omega) (by omega) af' b' k' Q' g0' w0' out' hp' (fun e => u76 (hk' e)) (u4s hpl') env' a' w' g' H' Δ' o' hgl' (u6p hS') h' hu'
  obtain ⟨b, rfl⟩ := hco
  -- what holds at the head of a round with depth m
  let J : Nat → Act → World → Prop := fun m a w => m ≤ n ∧ ∃ env g H Δ o, Glob g0 w0 g w ∧ Sta ⟨P, pr, C0, D0, none, res⟩ g H env a w Δ ∧ (sem P X m).L none pr res af (.loop b) env k H = some o ∧ unw CDN Δ o = some out
  let μ : Act → World → Nat := fun a w => if hh : ∃ m, J m a w then least (fun m => J m a w) hh else 0
  refine wp_loop (fun a w => ∃ m, J m a w) μ ⟨n, Nat.le_refl n, env, g, H, Δ, o, hgl, hS, h, hu⟩ ?_
  intro a w hI
  have hμ : μ a w = least (fun m => J m a w) hI := by
    show (if hh : ∃ m, J m a w then least (fun m => J m a w) hh else 0) = _
    rw [dif_pos hI]
  obtain ⟨hmN, env, g, H, Δ, o, hgl, hS, h, hu⟩ := uik (fun m => J m a w) hI
  cases hm : least (fun m => J m a w) hI with
  | zero =>
    rw [hm] at h
    exact (u00 (H := H) h).elim
  | succ m =>
    rw [hm] at h hmN
    have hstep : Code.wp P b (Exit.then (fun a' w' => J m a' w') Q) a w := by
      refine u3s (c := ⟨P, pr, (sem P X m).C, (sem P X m).CD, none, res⟩) (CDN := CDN) (hCs m (by omega)) rfl (hle m (by omega)) (L := (sem P X m).L none pr res) ?_ b (alive af b) _ _ g0 w0 out (fun t ht => List.mem_append_right _ (hp t ht)) (fun e => ?_) ?_ env a w g H Δ o hgl (u6p hS) h hu
      · intro af' b' k' Q' g0' w0' out' hp' hk' hpl' env' a' w' g' H' Δ' o' hgl' hS' h' hu'
        exact ih m (by omega) (by omega) af' b' k' Q' g0' w0' out' hp' (fun e => u76 (hk' e)) (u4s hpl') env' a' w' g' H' Δ' o' hgl' (u6p hS') h' hu'
      · cases e with
        | normal =>
          intro Δ o g H env a w h hu hgl hS
          exact ⟨by omega, _, g, H, Δ, o, hgl, (u6p hS).keep (fun t ht => List.mem_append_right _ (hp t ht)), h, hu⟩
        | exit id => exact u76 (hk (.exit id))
        | ret => exact u76 (hk .ret)
      · exact u4s hpl
    refine wp_mono hstep fun e a' w' hq => ?_
    cases e with
    | normal =>
      have hJ : J m a' w' := hq
      refine ⟨⟨m, hJ⟩, ?_⟩
      rw [hμ, hm]
      have : μ a' w' = least (fun m => J m a' w') ⟨m, hJ⟩ := by
        show (if hh : ∃ m, J m a' w' then least (fun m => J m a' w') hh else 0) = _
        rw [dif_pos ⟨m, hJ⟩]
      rw [this]
      exact Nat.lt_succ_of_le (um9 (fun m => J m a' w') _ hJ)
    | _ => exact hq
end
end Go.Proofs.YtiiepllnnjjmaaaDoor.Pi
namespace Go.Proofs.YtiiepllnnjjmaaaDoor.Pi
variable {P : Program} {g : G} {L L' : Owner} {w w' : World} {H : Heap} {x : Nat} {env : Env}
def resRun (tm : Array Value) : ResultVar → Sem Value
  | .tmp t => pure (tm.getD t undef)
  | .cell a t => do loadVar t (← asAddr (tm.getD a undef))
theorem u9q {fn : Func} {tm : Array Value} {vs : List Value} (h : (fn.results.toList.mapM (resRun tm)).run P w = .ok vs w) : (results fn tm).run P w = .ok (if h : vs.length = 1 then vs[0] else .tuple vs.toArray) w := by
  have e : results fn tm = (do let vs ← fn.results.mapM (resRun tm); pure (if h : vs.size = 1 then vs[0] else .tuple vs)) := by
    unfold results
    congr 1
  rw [e, Array.mapM_eq_mapM_toList]
  simp only [Sem.run_bind, Sem.run_map, h, Result.andThen_ok, Sem.run_pure, Result.ok.injEq, and_true]
  by_cases h1 : vs.length = 1
  · rw [dif_pos h1, dif_pos (by simpa using h1)]
    simp
  · rw [dif_neg h1, dif_neg (by simpa using h1)]
def mvRes (s j : Nat) : Owner → Owner
  | .tmp t => if t = s then .sub .res j else .tmp t
  | M => M
theorem TOk.moveRes {tm : Array Value} (h : TOk x g env tm) (s j : Nat) : TOk x (g.ren (mvRes s j)) (env.set s (strip (env.getD s .undef))) tm := by
  have hl := h.len
  refine ⟨h.one, by simp [h.len], fun t u q hu hq => ?_, fun t q ht hq => ?_⟩
  · by_cases e : s = t
    · subst e
      have h2 : s < env.length := by
        have := (List.getElem?_eq_some_iff.mp hq).1
        simpa using this
      rw [List.getElem?_set_self h2] at hq
      simp only [Option.some.injEq] at hq
      subst hq
      have : env.getD s .undef = env[s] := by simp [List.getD, List.getElem?_eq_getElem h2]
      rw [this]
      exact (h.val s u _ hu (List.getElem?_eq_getElem h2)).stripRen _ _
    · rw [List.getElem?_set_ne e] at hq
      refine (h.val t u q hu hq).ren ?_ (fun j => rfl)
      show (if t = s then _ else _) = _
      rw [if_neg (fun h => e h.symm)]
  · have h3 := h.giveUp (some (s, none))
    exact h3.slot t q ht hq
def uji : Owner → Prop
  | .up _ => True
  | .sub .res _ => True
  | _ => False
theorem RepT.notTup {p : PV} {v : Value} (h : RepT g L p v) (hn : isTup p = false) : RepS g L p v := by
  cases h with
  | one h => exact h
  | tup => simp [isTup] at hn
  | aggo => simp [isTup] at hn
theorem ug0 {tm : Array Value} {k : List PV → M PV} {o : Out PV} : ∀ (rs : List ResultVar) (env : Env) (acc : List PV) (g : G) (H : Heap), resV P env rs acc k H = some o → Inv g H w → TOk x g env tm →
    (∃ v H', o = .pan v H' ∧ False) ∨ ∃ pvs cvs g' H', (rs.mapM (resRun tm)).run P w = .ok cvs w ∧ k (acc.reverse ++ pvs) H' = some o ∧ Inv g' H' w ∧ Glob g w g' w ∧ Grow uji g g' ∧ pvs.length = cvs.length ∧
      ∀ (j : Nat) (p : PV) (v : Value), pvs[j]? = some p → cvs[j]? = some v → RepS g' (.sub .res (acc.length + j)) p v
  | [], env, acc, g, H, h, hi, hT => .inr ⟨[], [], g, H, by simp, by simpa [resV] using h, hi, Glob.refl _ _, Grow.refl _ _, rfl, fun j p v hp => by simp at hp⟩
  | .tmp t :: r, env, acc, g, H, h, hi, hT => by
    refine .inr ?_
    unfold resV at h
    have rt := ev_tmp hT t
    cases ht : isTup (env.getD t .undef) with
    | true => rw [ht] at h; exact (u00 (H := H) h).elim
    | false =>
      rw [ht] at h
      dsimp only [cond_false] at h
      rcases ug0 r _ _ (g.ren (mvRes t acc.length)) H h (hi.ren (fun _ _ => rfl)) (hT.moveRes t acc.length) with ⟨_, _, _, hf⟩ | ⟨pvs, cvs, g', H', e1, e2, e3, e4, e5, e6, e7⟩
      · exact hf.elim
      refine ⟨env.getD t .undef :: pvs, tm.getD t undef :: cvs, g', H', ?_, ?_, e3, (u36 (w := w) (fun M => rfl)).trans e4, (u7a (fun M hM => by cases M <;> first | rfl | exact hM.elim)).trans e5, by simp [e6], fun j p v hp hv => ?_⟩
      · simp only [List.mapM_cons, Sem.run_bind, resRun, Sem.run_pure, Result.andThen_ok, e1]
      · simpa using e2
      · cases j with
        | zero =>
          simp at hp hv
          subst hp; subst hv
          have h1 : RepS (g.ren (mvRes t acc.length)) (.sub .res acc.length) (env.getD t .undef) (tm.getD t undef) := by
            refine (rt.notTup ht).ren ?_
            show (if t = t then _ else _) = _
            rw [if_pos rfl]
          have h1 := h1.mono e5 (L := .sub .res acc.length) True.intro
          simpa using h1
        | succ j =>
          have := e7 j p v (by simpa using hp) (by simpa using hv)
          simpa [Nat.add_assoc, Nat.add_comm 1 j] using this
  | .cell a t :: r, env, acc, g, H, h, hi, hT => by
    refine .inr ?_
    unfold resV at h
    obtain ⟨hk, h⟩ := u03 h
    unfold M.bind at h
    have rt := ev_tmp hT a
    cases hld : ld (tagg P t) true (env.getD a .undef) H with
    | none => rw [hld] at h; simp at h
    | some o1 =>
      rw [hld] at h
      obtain ⟨v, H1, cv, g1, rfl, h1, h2, h3, h4, h5⟩ := ld_mvS (P := P) (w := w) (tm.size + acc.length + 1) hk hld hi rt
      dsimp only at h
      obtain ⟨hnt, h⟩ := u03 h
      have hnt : isTup v = false := by simpa using hnt
      have hT1 : TOk x g1 env tm := hT.mono h3 (fun M hM => by cases M <;> first | exact True.intro | exact hM.elim)
      have hT2 : TOk x (g1.ren (mvRes (tm.size + acc.length + 1) acc.length)) env tm := by
        refine ⟨hT1.one, hT1.len, fun t' u q hu hq => (hT1.val t' u q hu hq).ren ?_ (fun j => rfl), hT1.slot⟩
        show (if t' = tm.size + acc.length + 1 then _ else _) = _
        rw [if_neg (by have := (Array.getElem?_eq_some_iff.mp hu).1; omega)]
      have hload : (resRun tm (.cell a t)).run P w = .ok cv w := by
        unfold resRun
        have h1' := h1
        unfold Instr.loadAt at h1'
        cases hv : tm.getD a undef with
        | pointer p =>
          rw [hv] at h1'
          cases p with
          | none => simp [Instr.sureAddr] at h1'
          | some ad =>
            dsimp only
            rw [hv]
            simpa [Instr.sureAddr, asAddr] using h1'
        | _ => rw [hv] at h1'; simp [Instr.sureAddr] at h1'
      rcases ug0 r env (v :: acc) (g1.ren (mvRes (tm.size + acc.length + 1) acc.length)) H1 h (h4.ren (fun _ _ => rfl)) hT2 with ⟨_, _, _, hf⟩ | ⟨pvs, cvs, g', H', e1, e2, e3, e4, e5, e6, e7⟩
      · exact hf.elim
      · refine ⟨v :: pvs, cv :: cvs, g', H', ?_, by simpa using e2, e3, h2.trans ((u36 (w := w) (fun M => rfl)).trans e4), ?_, by simp [e6], fun j p u hp hu => ?_⟩
        · simp only [List.mapM_cons, Sem.run_bind, hload, Sem.run_pure, Result.andThen_ok, e1]
        · exact (h3.sub (fun M hM => by cases M <;> first | exact True.intro | exact hM.elim)).trans ((u7a (fun M hM => by cases M <;> first | rfl | exact hM.elim)).trans e5)
        · cases j with
          | zero =>
            simp at hp hu
            subst hp; subst hu
            have h6 := (h5.notTup hnt).ren (f := mvRes (tm.size + acc.length + 1) acc.length) (L' := .sub .res acc.length) (by
              show (if tm.size + acc.length + 1 = tm.size + acc.length + 1 then _ else _) = _
              rw [if_pos rfl])
            have h7 := h6.mono e5 (L := .sub .res acc.length) True.intro
            simpa using h7
          | succ j =>
            have := e7 j p u (by simpa using hp) (by simpa using hu)
            simpa [Nat.add_assoc, Nat.add_comm 1 j] using this
end Go.Proofs.YtiiepllnnjjmaaaDoor.Pi
namespace Go.Proofs.YtiiepllnnjjmaaaDoor.Pi
variable {P : Program} {g : G} {L L' : Owner} {w w' : World} {H : Heap} {x : Nat} {env : Env}
def u8k (g : G) (e : Env) (tm : Array Value) (rs : List ResultVar) : Prop :=
  ∀ r ∈ rs, ∃ a t id off b, r = .cell a t ∧ e.getD a .undef = .ptr id off ∧ g.ι[id]? = some b ∧ tm.getD a undef = .pointer (some ⟨b, off, none⟩)
theorem ul2 {tm : Array Value} {k : List PV → M PV} {o : Out PV} {e : Env} : ∀ (rs : List ResultVar) (acc : List PV) (g : G) (H : Heap), resV P e rs acc k H = some o → Inv g H w → u8k g e tm rs →
    ∃ pvs cvs g' H', (rs.mapM (resRun tm)).run P w = .ok cvs w ∧ k (acc.reverse ++ pvs) H' = some o ∧ Inv g' H' w ∧ Glob g w g' w ∧ Grow uji g g' ∧ pvs.length = cvs.length ∧
      ∀ (j : Nat) (p : PV) (v : Value), pvs[j]? = some p → cvs[j]? = some v → RepS g' (.sub .res (acc.length + j)) p v
  | [], acc, g, H, h, hi, hT => ⟨[], [], g, H, by simp, by simpa [resV] using h, hi, Glob.refl _ _, Grow.refl _ _, rfl, fun j p v hp => by simp at hp⟩
  | r0 :: r, acc, g, H, h, hi, hT => by
    obtain ⟨a, t, id, off, b, rfl, he, hb, hv⟩ := hT r0 List.mem_cons_self
    unfold resV at h
    obtain ⟨hk, h⟩ := u03 h
    unfold M.bind at h
    rw [he] at h
    have rt : RepT g (.tmp 0) (.ptr id off) (tm.getD a undef) := by rw [hv]; exact rT (.ptr hb) _
    cases hld : ld (tagg P t) true (.ptr id off) H with
    | none => rw [hld] at h; simp at h
    | some o1 =>
      rw [hld] at h
      obtain ⟨v, H1, cv, g1, rfl, h1, h2, h3, h4, h5⟩ := ld_mvS (P := P) (w := w) (tm.size + acc.length + 1) hk hld hi rt
      dsimp only at h
      obtain ⟨hnt, h⟩ := u03 h
      have hnt : isTup v = false := by simpa using hnt
      have hload : (resRun tm (.cell a t)).run P w = .ok cv w := by
        unfold resRun
        have h1' := h1
        unfold Instr.loadAt at h1'
        dsimp only
        rw [hv] at h1' ⊢
        simpa [Instr.sureAddr, asAddr] using h1'
      have hT2 : u8k (g1.ren (mvRes (tm.size + acc.length + 1) acc.length)) e tm r := fun q hq => by
        obtain ⟨a, t, id, off, b, e1, e2, e3, e4⟩ := hT q (List.mem_cons_of_mem _ hq)
        exact ⟨a, t, id, off, b, e1, e2, h2.up.ι _ _ e3, e4⟩
      obtain ⟨pvs, cvs, g', H', e1, e2, e3, e4, e5, e6, e7⟩ := ul2 r (v :: acc) (g1.ren (mvRes (tm.size + acc.length + 1) acc.length)) H1 h (h4.ren (fun _ _ => rfl)) hT2
      refine ⟨v :: pvs, cv :: cvs, g', H', ?_, by simpa using e2, e3, h2.trans ((u36 (w := w) (fun M => rfl)).trans e4), ?_, by simp [e6], fun j p u hp hu => ?_⟩
      · simp only [List.mapM_cons, Sem.run_bind, hload, Sem.run_pure, Result.andThen_ok, e1]
      · exact (h3.sub (fun M hM => by cases M <;> first | exact True.intro | exact hM.elim)).trans ((u7a (fun M hM => by cases M <;> first | rfl | exact hM.elim)).trans e5)
      · cases j with
        | zero =>
          simp at hp hu
          subst hp; subst hu
          have h6 := (h5.notTup hnt).ren (f := mvRes (tm.size + acc.length + 1) acc.length) (L' := .sub .res acc.length) (by
            show (if tm.size + acc.length + 1 = tm.size + acc.length + 1 then _ else _) = _
            rw [if_pos rfl])
          have h7 := h6.mono e5 (L := .sub .res acc.length) True.intro
          simpa using h7
        | succ j =>
          have := e7 j p u (by simpa using hp) (by simpa using hu)
          simpa [Nat.add_assoc, Nat.add_comm 1 j] using this
def oneRes : Owner → Owner
  | .sub .res 0 => .res
  | M => M
def resFin : List PV → M PV
  | [v] => M.pure v
  | vs => M.pure (.tup vs)
theorem uep {fn : Func} {tm : Array Value} {o : Out PV} {pvs : List PV} {cvs : List Value} {g' : G} {H' : Heap} (e1 : (fn.results.toList.mapM (resRun tm)).run P w = .ok cvs w)
    (e2 : resFin pvs H' = some o) (e3 : Inv g' H' w) (e4 : Glob g w g' w) (e6 : pvs.length = cvs.length)
    (e7 : ∀ (j : Nat) (p : PV) (v : Value), pvs[j]? = some p → cvs[j]? = some v → RepS g' (.sub .res j) p v) :
    ∃ v cv g2, o = .ok v H' ∧ (results fn tm).run P w = .ok cv w ∧ Inv g2 H' w ∧ Glob g w g2 w ∧ RepT g2 .res v cv := by
  have hr := u9q e1
  match pvs, cvs, e6 with
  | [], [], _ =>
    simp only [resFin, M.pure, Option.some.injEq] at e2
    exact ⟨_, _, g', e2.symm, hr, e3, e4, .tup rfl fun j p v hp => by simp at hp⟩
  | [p], [cv], _ =>
    simp only [resFin, M.pure, Option.some.injEq] at e2
    refine ⟨p, cv, g'.ren oneRes, e2.symm, by simpa using hr, e3.ren (fun _ _ => rfl), e4.trans (u36 (fun _ => rfl)), .one ((e7 0 p cv rfl rfl).ren rfl)⟩
  | p :: q :: r, cp :: cq :: cr, h6 =>
    simp only [resFin, M.pure, Option.some.injEq] at e2
    refine ⟨_, .tuple (cp :: cq :: cr).toArray, g', e2.symm, by rw [hr]; simp, e3, e4, .tup (by simpa using h6.symm) fun j u v hu hv => e7 j u v hu (by simpa using hv)⟩
theorem unr {fn : Func} {tm : Array Value} {o : Out PV} (h : resM P fn env H = some o) (hi : Inv g H w) (hT : TOk x g env tm) :
    ∃ v H' cv g2, o = .ok v H' ∧ (results fn tm).run P w = .ok cv w ∧ Inv g2 H' w ∧ Glob g w g2 w ∧ RepT g2 .res v cv := by
  rcases ug0 (w := w) fn.results.toList env [] g H h hi hT with ⟨_, _, _, hf⟩ | ⟨pvs, cvs, g', H', e1, e2, e3, e4, e5, e6, e7⟩
  · exact hf.elim
  · obtain ⟨v, cv, g2, a, b, c, d, e⟩ := uep (fn := fn) e1 (by rcases pvs with _ | ⟨p, _ | ⟨q, r⟩⟩ <;> exact e2) e3 e4 e6 (by simpa using e7)
    exact ⟨v, H', cv, g2, a, b, c, d, e⟩
theorem um0 {fn : Func} {tm : Array Value} {o : Out PV} (h : resM P fn env H = some o) (hi : Inv g H w) (hT : u8k g env tm fn.results.toList) :
    ∃ v H' cv g2, o = .ok v H' ∧ (results fn tm).run P w = .ok cv w ∧ Inv g2 H' w ∧ Glob g w g2 w ∧ RepT g2 .res v cv := by
  obtain ⟨pvs, cvs, g', H', e1, e2, e3, e4, e5, e6, e7⟩ := ul2 (w := w) fn.results.toList [] g H h hi hT
  obtain ⟨v, cv, g2, a, b, c, d, e⟩ := uep (fn := fn) e1 (by rcases pvs with _ | ⟨p, _ | ⟨q, r⟩⟩ <;> exact e2) e3 e4 e6 (by simpa using e7)
  exact ⟨v, H', cv, g2, a, b, c, d, e⟩
theorem u9n {CDN : Option PV → CallT} {c : Ctx} {fn : Func} {tm : Array Value} {R : Ending → World → Prop} {g0 : G} {w0 : World} {out0 : Out PV} (hCD : ufi P CDN) (hres : c.res = resM P fn)
    (hprot : c.prot ≠ [] → ∀ r ∈ fn.results.toList, ∃ a t, r = .cell a t ∧ a ∈ c.prot)
    (hR : ∀ g v H cv w, out0 = .ok v H → Glob g0 w0 g w → Inv g H w → RepT g .res v cv → R (.returned cv) w) :
    ∀ (Δ : List Dfr) (d : Dfr) (δ : Deferred) (ds : List Deferred) (o : Out PV) (g : G) (H : Heap) (w : World) (u : FrameMode), (match o with | .ok _ H' => H' = H ∧ u = .returning | .pan p H' => H' = H ∧ ∃ cv, u = .panicking [{ v := cv, recovered := false }] ∧ Rep g.ι g.im p cv) →
      Inv g H w → DefsOk c g env (d :: Δ) (δ :: ds) → unw CDN (d :: Δ) o = some out0 → Glob g0 w0 g w → (∀ t ∈ c.prot, ∀ id off, env.getD t .undef = .ptr id off → ∃ b, g.ι[id]? = some b ∧ tm.getD t undef = .pointer (some ⟨b, off, none⟩)) →
      Leaves P fn tm R (δ :: ds) u w
  | Δ, d, δ, ds, o, g, H, w, u, ho, hi, ⟨⟨cap, cargs, hδ, hargs⟩, ⟨hne, ed, hed, hpt⟩, hrest⟩, hu, hgl, hpr => by
    subst hδ
    -- the call itself
    have hcall : ∃ rv v H2, CDN rv d.f d.args H = some (.ok v H2) ∧ ModeOk g rv u ∧ ∃ o', d.res H2 = some o' ∧ unw CDN Δ o' = some out0 ∧ settle (u2y v u) = .returning := by
      have hu' : (dstep CDN d o).bind (unw CDN Δ) = some out0 := hu
      obtain ⟨o', hd, hΔ⟩ := Option.bind_eq_some_iff.mp hu'
      cases o with
      | ok v0 H' =>
        obtain ⟨rfl, rfl⟩ := ho
        have hd : M.bind (CDN none d.f d.args) (fun _ => d.res) H' = some o' := hd
        unfold M.bind at hd
        cases hc : CDN none d.f d.args H' with
        | none => rw [hc] at hd; simp at hd
        | some o1 =>
          obtain ⟨_, v, H2, rfl, _⟩ := hCD _ _ _ _ _ hc
          rw [hc] at hd
          refine ⟨none, v, H2, hc, rfl, o', hd, hΔ, ?_⟩
          unfold u2y
          split <;> first | rfl | (rename_i h; cases h) | rfl
      | pan p H' =>
        obtain ⟨rfl, cv, rfl, hrp⟩ := ho
        have hd : M.bind (CDN (some p) d.f d.args) (fun r => match r with | .tup [] => d.res | _ => M.fail) H' = some o' := hd
        unfold M.bind at hd
        cases hc : CDN (some p) d.f d.args H' with
        | none => rw [hc] at hd; simp at hd
        | some o1 =>
          obtain ⟨_, v, H2, rfl, _⟩ := hCD _ _ _ _ _ hc
          rw [hc] at hd
          dsimp only at hd
          split at hd
          · exact ⟨some p, .tup [], H2, hc, ⟨cv, rfl, hrp⟩, o', hd, hΔ, rfl⟩
          · exact (u00 (H := H2) hd).elim
    obtain ⟨rv, v, H2, hc, hm, o', hres', hΔ, hset⟩ := hcall
    obtain ⟨hcal, v', H2', hov, hsound⟩ := hCD _ _ _ _ _ hc
    simp only [Out.ok.injEq] at hov
    obtain ⟨rfl, rfl⟩ := hov
    refine leaves_cons ?_ (by
      show (callFunc d.f (cargs ++ cap)).run P w = _
      exact u85 hcal) ((hsound g w _ u hi hargs hm).mono ?_)
    · intro e
      cases rv with
      | none => have hm : u = .returning := hm; rw [hm] at e; cases e
      | some p => obtain ⟨cv, hm, _⟩ := hm; rw [hm] at e; cases e
    rintro e u' w1 ⟨g1, cv, hgl1, hgr1, rfl, hi1, rfl⟩
    show Leaves P fn tm R ds (settle (u2y v u)) w1
    rw [hset]
    have hcells : u8k g1 ed tm fn.results.toList := by
      intro r hr
      obtain ⟨a, t, rfl, hap⟩ := hprot hne r hr
      obtain ⟨id, off, h1, h2⟩ := hpt a hap
      obtain ⟨b, hb, htv⟩ := hpr a hap id off h2
      exact ⟨a, t, id, off, b, rfl, h1, hgr1.ι _ _ hb, htv⟩
    rw [hed, hres] at hres'
    obtain ⟨vr, H3, cvr, g3, rfl, hrun, hi3, hgl3, hrep3⟩ := um0 (tm := tm) hres' hi1 hcells
    cases Δ with
    | nil =>
      have hds : ds = [] := by cases ds <;> first | rfl | exact hrest.elim
      subst hds
      have : out0 = .ok vr H3 := by
        have : some (Out.ok vr H3) = some out0 := hΔ
        exact (Option.some.inj this).symm
      exact ⟨cvr, hrun, hR g3 vr H3 cvr w1 this (hgl.trans (hgl1.trans hgl3)) hi3 hrep3⟩
    | cons d2 Δ2 =>
      cases ds with
      | nil => exact hrest.elim
      | cons δ2 ds2 =>
        refine u9n hCD hres hprot hR Δ2 d2 δ2 ds2 (.ok vr H3) g3 H3 w1 .returning ⟨rfl, rfl⟩ hi3 (DefsOk.step (hgl1.trans hgl3).up.ι (hgl1.trans hgl3).up.im (fun t _ id off he => he) hrest) hΔ (hgl.trans (hgl1.trans hgl3)) (fun t ht id off he => ?_)
        obtain ⟨b, hb, htv⟩ := hpr t ht id off he
        exact ⟨b, (hgl1.trans hgl3).up.ι _ _ hb, htv⟩
end Go.Proofs.YtiiepllnnjjmaaaDoor.Pi
namespace Go.Proofs.YtiiepllnnjjmaaaDoor.Pi
variable {P : Program} {g : G} {L L' : Owner} {w w' : World} {H : Heap} {x : Nat} {env : Env}
theorem ud2 {args : List PV} {cargs : Array Value} {n : Nat} (h : ArgsOk g args cargs) : TOk 0 (g.ren upF) (args ++ List.replicate (n - args.length) .undef) (cargs ++ Array.replicate (n - cargs.size) undef) := by
  have hs := h.size
  refine ⟨by omega, by simp [hs], fun t v p hv hp => ?_, fun t p ht hp => ?_⟩
  · by_cases ht : t < args.length
    · rw [List.getElem?_append_left ht] at hp
      rw [Array.getElem?_append_left (by omega)] at hv
      obtain ⟨r, s⟩ := h.rep t p v hp hv
      exact r.still s (g' := g.ren upF) (fun _ _ h => h) (fun _ _ _ h => h) _
    · rw [List.getElem?_append_right (by omega)] at hp
      have : p = .undef := by
        have := List.mem_of_getElem? hp
        simpa using (List.mem_replicate.mp this).2
      subst this
      exact .one (.undef _)
  · have h1 := (List.getElem?_eq_some_iff.mp hp).1
    simp [hs] at ht h1
    omega
theorem ui3 {g' : G} (h : Glob g w g' w') : g.ι.length ≤ g'.ι.length := by
  rcases Nat.lt_or_ge g'.ι.length g.ι.length with h1 | h1
  · exfalso
    have h2 := h.up.ι g'.ι.length _ (List.getElem?_eq_getElem h1)
    have := (List.getElem?_eq_some_iff.mp h2).1
    omega
  · exact h1
theorem uk1 {g1 : G} {w1 : World} {v : PV} {cv : Value} {H' : Heap} (hH : g.ι.length = H.length) (hgl : Glob (g.ren upF) w g1 w1) (hi : Inv g1 H' w1) (hr : RepT g1 .res v cv) :
    u3n g w (.ok v (bif v.low H.length then H'.take H.length else H')) (.returned cv) w1 := by
  have hlen : g.ι.length ≤ g1.ι.length := ui3 (g := g.ren upF) hgl
  have hi2 : Inv (g1.ren downF) H' w1 := hi.ren (fun _ _ => rfl)
  have hr2 : RepT (g1.ren downF) .res v cv := hr.ren rfl (fun _ => rfl)
  cases hl : v.low H.length with
  | true =>
    obtain ⟨a, b⟩ := out_of hgl (n := H.length) (by omega)
    exact ⟨_, a, b, cv, rfl, hi2.take (by have := hi.len; omega), hr2.lowT hl⟩
  | false =>
    obtain ⟨a, b⟩ := out_of hgl (n := g1.ι.length) hlen
    have e : ({ (g1.ren downF) with ι := g1.ι.take g1.ι.length } : G) = g1.ren downF := by simp [G.ren]
    rw [e] at a b
    exact ⟨_, a, b, cv, rfl, hi2, hr2⟩
theorem uig {g1 : G} {w1 : World} {v : PV} {cv : Value} {H' : Heap} (hH : g.ι.length = H.length) (hgl : Glob (g.ren upF) w g1 w1) (hi : Inv g1 H' w1) (hl : v.low H.length = true) (hr : Rep g1.ι g1.im v cv) :
    u3n g w (.pan v (H'.take H.length)) (.panicked [{ v := cv, recovered := false }]) w1 := by
  have hlen : g.ι.length ≤ g1.ι.length := ui3 (g := g.ren upF) hgl
  have hi2 : Inv (g1.ren downF) H' w1 := hi.ren (fun _ _ => rfl)
  obtain ⟨a, b⟩ := out_of hgl (n := H.length) (by omega)
  exact ⟨_, a, b, cv, rfl, hi2.take (by have := hi.len; omega), hr.low hl⟩
def ufm : ResultVar → Bool
  | .cell _ _ => true
  | _ => false
def cellOf : ResultVar → Option Tmp
  | .tmp _ => none
  | .cell a _ => some a
theorem uet (fn : Func) : protOf fn = bif fn.results.toList.all ufm then fn.results.toList.filterMap cellOf else [] := rfl
theorem u8m {fn : Func} (h : protOf fn ≠ []) : ∀ r ∈ fn.results.toList, ∃ a t, r = .cell a t ∧ a ∈ protOf fn := by
  intro r hr
  rw [uet] at h ⊢
  cases hc : fn.results.toList.all ufm with
  | false => rw [hc] at h; exact absurd rfl h
  | true =>
    have h1 := List.all_eq_true.mp hc r hr
    cases r with
    | tmp t => cases h1
    | cell a t => exact ⟨a, t, rfl, List.mem_filterMap.mpr ⟨_, hr, rfl⟩⟩
theorem un5 {fn : Func} : ∀ t ∈ protOf fn, t ∈ u7n fn := by
  intro t ht
  rw [uet] at ht
  cases hc : fn.results.toList.all ufm with
  | false => rw [hc] at ht; simp at ht
  | true =>
    rw [hc] at ht
    obtain ⟨r, hr, he⟩ := List.mem_filterMap.mp ht
    cases r with
    | tmp s => cases he
    | cell a s =>
      cases he
      exact List.mem_map.mpr ⟨_, hr, rfl⟩
theorem uff {C : CallT} {CD : Option PV → CallT} {LL : Option (Option PV) → List Tmp → (Env → M PV) → LoopT} (hC : CSound P C) (hCD : ufi P CD)
    (hL : ∀ fn, LSound CD ⟨P, protOf fn, C, CD, none, resM P fn⟩ (LL none (protOf fn) (resM P fn))) {f : FuncId} {args : List PV} {out : Out PV} (h : fnDen P C CD LL f args H = some out) :
    u41 P f = true ∧ ∀ g w cargs, Inv g H w → ArgsOk g args cargs → Calls P f cargs w (u3n g w out) := by
  unfold fnDen at h
  cases hf : P.funcs[f]? with
  | none => rw [hf] at h; exact (u00 (H := H) h).elim
  | some fn =>
    rw [hf] at h
    dsimp only at h
    cases hb : fn.body with
    | none => rw [hb] at h; exact (u00 (H := H) h).elim
    | some b =>
      rw [hb] at h
      dsimp only at h
      obtain ⟨hn, h⟩ := u03 h
      refine ⟨by unfold u41; rw [hf]; simp only [hn, hb]; rfl, fun g w cargs hi ha => ?_⟩
      unfold trunc at h
      generalize hm : den _ _ _ _ _ _ H = r at h
      cases r with
      | none => simp at h
      | some out0 =>
        have hret : ∀ g1 v H' cv w1, out0 = .ok v H' → Glob (g.ren upF) w g1 w1 → Inv g1 H' w1 → RepT g1 .res v cv → u3n g w out (.returned cv) w1 := by
          intro g1 v H' cv w1 ho hgl hi1 hr
          subst ho
          simp only [Option.some.injEq] at h
          subst h
          exact uk1 hi.len hgl hi1 hr
        have hpan : ∀ g1 v H' cv w1, out0 = .pan v H' → Glob (g.ren upF) w g1 w1 → Inv g1 H' w1 → Rep g1.ι g1.im v cv → u3n g w out (.panicked [{ v := cv, recovered := false }]) w1 := by
          intro g1 v H' cv w1 ho hgl hi1 hr
          subst ho
          have h : (bif v.low H.length then some (Out.pan v (H'.take H.length)) else none) = some out := h
          cases hl : v.low H.length with
          | false => rw [hl] at h; simp at h
          | true =>
            rw [hl] at h
            simp only [cond_true, Option.some.injEq] at h
            subst h
            exact uig hi.len hgl hi1 hl hr
        refine calls_of_wp_defers hf hb ?_
        have hptr : ∀ {env : Env} {a : Act} {g1 : G} {tm : Array Value}, TOk 0 g1 env tm → ∀ t ∈ protOf fn, ∀ id off, env.getD t .undef = .ptr id off → ∃ b, g1.ι[id]? = some b ∧ tm.getD t undef = .pointer (some ⟨b, off, none⟩) := by
          intro env a g1 tm hT t _ id off he
          have := ev_tmp hT t
          rw [he] at this
          exact this.ptr
        refine u3s (c := ⟨P, protOf fn, C, CD, none, resM P fn⟩) (CDN := CD) hC rfl (fun _ _ _ => Le.refl _) (hL fn) b (u7n fn) _ (bodyPostD P fn (u3n g w out)) (g.ren upF) w out0 un5 (fun e => ?_) ?_ _ _ w (g.ren upF) H [] out0 (Glob.refl _ _) ⟨hi.ren (fun _ _ => rfl), ud2 ha, True.intro⟩ hm rfl
        · -- the end of the body
          have fin : ∀ Δ o g1 H1 env a w1, resM P fn env H1 = some o → unw CD Δ o = some out0 → Glob (g.ren upF) w g1 w1 → Sta ⟨P, protOf fn, C, CD, none, resM P fn⟩ g1 H1 env a w1 Δ → Leaves P fn a.tmps (u3n g w out) a.defers .returning w1 := by
            intro Δ o g1 H1 env a w1 hk hu hgl hS
            obtain ⟨v, H', cv, g2, rfl, hrun, hi2, hgl2, hr2⟩ := unr hk hS.inv hS.tok
            have hd := hS.defs
            cases Δ with
            | nil =>
              cases hdf : a.defers with
              | cons δ ds => rw [hdf] at hd; exact hd.elim
              | nil =>
                have ho : out0 = .ok v H' := (Option.some.inj hu).symm
                exact ⟨cv, hrun, hret g2 v H' cv w1 ho (hgl.trans hgl2) hi2 hr2⟩
            | cons d Δ =>
              cases hdf : a.defers with
              | nil => rw [hdf] at hd; exact hd.elim
              | cons δ ds =>
                rw [hdf] at hd
                refine u9n hCD rfl (fun hne => u8m hne) (fun g v H cv w h1 h2 h3 h4 => hret g v H cv w h1 h2 h3 h4) Δ d δ ds (.ok v H') g2 H' w1 .returning ⟨rfl, rfl⟩ hi2 (DefsOk.step hgl2.up.ι hgl2.up.im (fun t _ id off he => he) hd) hu (hgl.trans hgl2) (fun t ht id off he => ?_)
                obtain ⟨b, hb, htv⟩ := hptr (a := a) hS.tok t ht id off he
                exact ⟨b, hgl2.up.ι _ _ hb, htv⟩
          cases e with
          | normal => exact fin
          | ret => exact fin
          | exit id => exact fun Δ o g1 H1 env a w1 hk => (u00 (H := H1) hk).elim
        · -- a panic
          intro Δ v H1 g1 env a w1 cv hu hgl hS hr
          have hd := hS.defs
          show Leaves P fn a.tmps (u3n g w out) a.defers (.panicking [{ v := cv, recovered := false }]) w1
          cases Δ with
          | nil =>
            cases hdf : a.defers with
            | cons δ ds => rw [hdf] at hd; exact hd.elim
            | nil => exact hpan g1 v H1 cv w1 (Option.some.inj hu).symm hgl hS.inv hr
          | cons d Δ =>
            cases hdf : a.defers with
            | nil => rw [hdf] at hd; exact hd.elim
            | cons δ ds =>
              rw [hdf] at hd
              exact u9n hCD rfl (fun hne => u8m hne) (fun g v H cv w h1 h2 h3 h4 => hret g v H cv w h1 h2 h3 h4) Δ d δ ds (.pan v H1) g1 H1 w1 _ ⟨rfl, cv, rfl, hr⟩ hS.inv hd hu hgl (hptr (a := a) hS.tok)
end Go.Proofs.YtiiepllnnjjmaaaDoor.Pi
namespace Go.Proofs.YtiiepllnnjjmaaaDoor.Pi
variable {P : Program} {g : G} {L L' : Owner} {w w' : World} {H : Heap} {x : Nat} {env : Env}
def slotV (env : Env) : PV := env.getD (env.length - 1) .undef
theorem ModeOk.mono {rv : Option PV} {u : FrameMode} (h : ModeOk g rv u) {g' : G} (hι : ∀ (i b : Nat), g.ι[i]? = some b → g'.ι[i]? = some b) (him : ∀ b o v, g.im b o = some v → g'.im b o = some v) : ModeOk g' rv u := by
  cases rv with
  | none => exact h
  | some p => obtain ⟨cv, h1, h2⟩ := h; exact ⟨cv, h1, h2.mono hι him⟩
theorem ucd {tm : Array Value} (hT : TOk 1 g env tm) : slotV env = .undef ∨ slotV env = .tup [] := by
  have hl := hT.len
  have h1 : env.length - 1 < env.length := by omega
  unfold slotV
  rw [List.getD_eq_getElem?_getD, List.getElem?_eq_getElem h1]
  exact hT.slot (env.length - 1) _ (by omega) (List.getElem?_eq_getElem h1)
theorem uam {tm : Array Value} (hT : TOk 1 g env tm) (s : Option (Tmp × Option Nat)) : slotV (giveUp env s) = slotV env := by
  have hs := ucd hT
  unfold slotV at hs ⊢
  rw [u37]
  unfold giveUp
  split
  · rw [u3o]
    split
    · rename_i hh
      rw [hh.1]
      exact u7g hs
    · rfl
  · rw [u3o]
    split
    · rename_i hh
      rw [hh.1]
      exact u5f _ hs
    · rfl
  · rfl
theorem ucm {d : Nat} {v : PV} (hd : d + 1 < env.length) : slotV (env.set d v) = slotV env := by
  unfold slotV
  rw [List.length_set, u3o, if_neg (by omega)]
theorem u8c {pr : List Tmp} {d : Tmp} (h : okDst true pr env (some d) = true) : d + 1 < env.length := by
  unfold okDst at h
  simp only [Bool.and_eq_true, Bool.or_eq_true, Bool.not_eq_true', decide_eq_true_eq] at h
  rcases h.2 with h1 | h1
  · cases h1
  · exact h1
theorem umc {rc : Option (Option PV)} {pr : List Tmp} {ops : Array Oper} {o : Oper} {v : PV} {tm : Array Value} (hT : TOk 1 g env tm) (hr : u08 o = false) (hd : okDst true pr env o.dst = true) : slotV (put rc ops env o v) = slotV env := by
  have htook : took rc o (giveUp env (given ops o)) = giveUp env (given ops o) := by
    unfold took
    simp [hr]
  unfold Pi.put
  rw [htook]
  cases hdst : o.dst with
  | none => exact uam hT _
  | some d =>
    rw [hdst] at hd
    have h1 := u8c hd
    show slotV ((giveUp env (given ops o)).set d v) = _
    rw [ucm (by rw [u37]; exact h1)]
    exact uam hT _
structure StaD (c : Ctx) (rv : Option PV) (u : FrameMode) (g : G) (H : Heap) (env : Env) (a : Act) (w : World) (m : FrameMode) : Prop where
  sta : Sta c g H env a w []
  mode : ModeOk g rv u
  now : m = u2y (slotV env) u
  defs : a.defers = []
theorem ub6 (a : Act) (d : Option Tmp) (v : Value) : (a.put d v).defers = a.defers := by cases d <;> rfl
theorem uno {c : Ctx} {a : Act} (h : a.defers = []) : DefsOk c g env [] a.defers := by rw [h]; exact True.intro
theorem TOk.took {tm : Array Value} (h : TOk 1 g env tm) : TOk 1 g (env.set (env.length - 1) (.tup [])) tm := by
  have hl := h.len
  refine ⟨h.one, by simp [hl], fun t v p hv hp => ?_, fun t p ht hp => ?_⟩
  · have h1 := (Array.getElem?_eq_some_iff.mp hv).1
    rw [List.getElem?_set_ne (by omega)] at hp
    exact h.val t v p hv hp
  · by_cases e : env.length - 1 = t
    · subst e
      rw [List.getElem?_set_self (by omega)] at hp
      cases hp
      exact .inr rfl
    · rw [List.getElem?_set_ne e] at hp
      exact h.slot t p ht hp
theorem umj {c : Ctx} {rv : Option PV} {u m : FrameMode} {a : Act} {ops : Array Oper} {o : Oper} {v : PV} {cv : Value} (hrc : c.rc = some rv) (hS : StaD c rv u g H env a w m) (hrec : u08 o = true) (hgv : given ops o = none)
    (hd : okDst true c.prot env o.dst = true) (hv : ∀ L, RepT g L v cv) : Sta c g H (put c.rc ops env o v) (a.put o.dst cv) w [] ∧ slotV (put c.rc ops env o v) = .tup [] := by
  have hT : TOk 1 g env a.tmps := by
    have := hS.sta.tok
    rw [hrc] at this
    exact this
  have hl := hT.len
  have htook : took c.rc o (giveUp env (given ops o)) = env.set (env.length - 1) (.tup []) := by
    rw [hgv, hrc]
    unfold took giveUp
    simp [hrec]
  have hs : slotV (env.set (env.length - 1) (.tup [])) = .tup [] := by
    unfold slotV
    rw [List.length_set, u3o, if_pos ⟨rfl, by omega⟩]
  have hx : xOf c.rc = 1 := by rw [hrc]; rfl
  refine ⟨⟨hS.sta.inv, ?_, by rw [ub6]; exact uno (by rw [hS.defs])⟩, ?_⟩
  · unfold Pi.put
    rw [htook, hx]
    cases hdst : o.dst with
    | none => exact hT.took
    | some d =>
      rw [hdst] at hd
      exact hT.took.put (.inr (by rw [List.length_set]; exact u8c hd)) (hv _)
  · unfold Pi.put
    rw [htook]
    cases hdst : o.dst with
    | none => exact hs
    | some d =>
      rw [hdst] at hd
      show slotV ((env.set (env.length - 1) (.tup [])).set d v) = _
      rw [ucm (by rw [List.length_set]; exact u8c hd)]
      exact hs
theorem u81 (v : PV) : u2y v .returning = .returning := by
  unfold u2y
  split <;> first | rfl | (rename_i h; cases h) | rfl
def LeafD (c : Ctx) (rv : Option PV) (u : FrameMode) (c0 : Frame) (cs0 : List Frame) (g0 : G) (w0 : World) (out : Out PV) (k : Env → M PV) (Q : Act → List Frame → World → Prop) : Prop :=
  ∀ env a w g H m, Glob g0 w0 g w → StaD c rv u g H env a w m → k env H = some out → Q a ({ c0 with mode := m } :: cs0) w
variable {c : Ctx} {rv : Option PV} {u : FrameMode} {c0 : Frame} {cs0 : List Frame} {g0 : G} {w0 : World} {v0 : PV} {H0 : Heap}
theorem u6v (hC : CSound c.P c.C) (hrc : c.rc = some rv) {ops : Array Oper} {k : Env → M PV} {Q : Exit → Act → List Frame → World → Prop} (hleaf : LeafD c rv u c0 cs0 g0 w0 (.ok v0 H0) k (Q .normal)) :
    ∀ (l : List Oper) (i : Nat) (env : Env) (a : Act) (w : World) (g : G) (H : Heap) (m : FrameMode), (∀ j, l[j]? = ops[i + j]?) → (∀ o ∈ l, u6e o = true) → Glob g0 w0 g w → StaD c rv u g H env a w m →
      dOps c ops l env k H = some (.ok v0 H0) → wpOpsS c.P ops Q (List.range' i l.length) a ({ c0 with mode := m } :: cs0) w
  | [], i, env, a, w, g, H, m, hl, hs, hgl, hS, h => hleaf env a w g H m hgl hS h
  | o :: r, i, env, a, w, g, H, m, hl, hs, hgl, hS, h => by
    have hr : ∀ j, r[j]? = ops[i + 1 + j]? := fun j => by
      have := hl (j + 1)
      rw [List.getElem?_cons_succ] at this
      rw [this]
      congr 1
      omega
    have ho : ops[i]? = some o := by
      have := hl 0
      simpa using this.symm
    have hso := hs o List.mem_cons_self
    have hsr : ∀ o ∈ r, u6e o = true := fun q hq => hs q (List.mem_cons_of_mem _ hq)
    rw [List.length_cons, u8r]
    simp only [wpOpsS, ho]
    rw [u5l] at h
    obtain ⟨hok, h⟩ := u03 h
    have hok' : okDst true c.prot env o.dst = true := by
      rw [hrc] at hok
      exact hok
    have hT : TOk 1 g env a.tmps := by
      have := hS.sta.tok
      rw [hrc] at this
      exact this
    have h : M.bind (gval c.P c.C c.rc ops env o) (fun v => dOps c ops r (put c.rc ops env o v) k) H = some (.ok v0 H0) := by
      obtain ⟨dst, op, ty, pos, after, guard⟩ := o
      cases op <;> first | exact h | (simp [u6e] at hso)
    unfold M.bind at h
    cases hg : gval c.P c.C c.rc ops env o H with
    | none => rw [hg] at h; simp at h
    | some o1 =>
      rw [hg] at h
      cases o1 with
      | pan v H1 => simp at h
      | ok v H1 =>
        have hnx : dOps c ops r (put c.rc ops env o v) k H1 = some (.ok v0 H0) := h
        clear h
        cases hrec : u08 o with
        | false =>
          have hst := ufu (Q := fun e a w => Q e a ({ c0 with mode := m } :: cs0) w) (next := fun a w => wpOpsS c.P ops Q (List.range' (i + 1) r.length) a ({ c0 with mode := m } :: cs0) w)
            hC (.inr hrec) hS.sta hok hg (fun v' H1' g' a' w' he hgl' hS' => by
              cases he
              have hda : a'.defers = [] := by
                have := hS'.defs
                cases hd : a'.defers with
                | nil => rfl
                | cons x y => rw [hd] at this; exact this.elim
              refine u6v hC hrc hleaf r (i + 1) _ a' w' g' H1 m hr hsr (hgl.trans hgl') ⟨hS', hS.mode.mono hgl'.up.ι hgl'.up.im, ?_, hda⟩ hnx
              rw [umc hT hrec hok']
              exact hS.now) (fun v' H1' g' w' cv he => by cases he)
          split
          · rename_i hw
            rw [if_pos hw] at hst
            unfold Oper.wp at hst
            generalize (execOp a.eval o).run c.P w = q at hst ⊢
            split
            · exact (show False from hst).elim
            · exact hst
          · rename_i hw
            rw [if_neg hw] at hst
            exact hst
        | true =>
          obtain ⟨dst, op, ty, pos, after, guard⟩ := o
          cases op with
          | call cl =>
            obtain ⟨callee, args, tys⟩ := cl
            cases callee with
            | builtin b =>
              cases b with
              | recover =>
                have hgd : guard = none := by
                  cases guard with
                  | none => rfl
                  | some q => simp [u6e, hrec] at hso
                subst hgd
                have hv : v = recV c.rc env ∧ H1 = H := by
                  have hg2 : opVal c.P c.C c.rc ops env ⟨dst, .call ⟨.builtin .recover, args, tys⟩, ty, pos, after, none⟩ H = some (.ok v H1) := hg
                  rw [hrc] at hg2 ⊢
                  have hg3 : M.pure (recV (some rv) env) H = some (.ok v H1) := hg2
                  simp only [M.pure, Option.some.injEq, Out.ok.injEq] at hg3
                  exact ⟨hg3.1.symm, hg3.2.symm⟩
                obtain ⟨rfl, rfl⟩ := hv
                have hrun : (execOp a.eval ⟨dst, .call ⟨.builtin .recover, args, tys⟩, ty, pos, after, none⟩).run c.P w = .ok .recover w := rfl
                have hw : Region.wanted ⟨dst, .call ⟨.builtin .recover, args, tys⟩, ty, pos, after, none⟩ (yielded ops a.tmps) = true := rfl
                rw [if_pos hw, hrun]
                dsimp only
                have fin : ∀ (cv : Value) (m' : FrameMode), (∀ L, RepT g L (recV c.rc env) cv) → m' = u2y (.tup []) u → wpOpsS c.P ops Q (List.range' (i + 1) r.length) (a.put dst cv) ({ c0 with mode := m' } :: cs0) w := by
                  intro cv m' hv hm
                  obtain ⟨h1, h2⟩ := umj (ops := ops) hrc hS hrec rfl hok' hv
                  exact u6v hC hrc hleaf r (i + 1) _ _ w g H1 m' hr hsr hgl ⟨h1, hS.mode, by rw [h2]; exact hm, by rw [ub6]; exact hS.defs⟩ hnx
                have hnil : ∀ L, RepT g L .niliface .nilIface := fun L => rT (.flat .niliface) _
                have hmode := hS.mode
                have hnow := hS.now
                cases rv with
                | none =>
                  have hu : u = .returning := hmode
                  subst hu
                  rw [u81] at hnow
                  subst hnow
                  refine fin .nilIface _ (fun L => ?_) (u81 _).symm
                  rw [hrc]
                  exact hnil L
                | some p =>
                  obtain ⟨cv, rfl, hp⟩ := hmode
                  rcases ucd hT with hsl | hsl
                  · rw [hsl] at hnow
                    subst hnow
                    refine fin cv _ (fun L => ?_) rfl
                    have : recV c.rc env = p := by
                      rw [hrc]
                      unfold recV
                      show (match slotV env with | .tup [] => PV.niliface | _ => p) = p
                      rw [hsl]
                    rw [this]
                    exact rT hp L
                  · rw [hsl] at hnow
                    subst hnow
                    refine fin .nilIface _ (fun L => ?_) rfl
                    have : recV c.rc env = .niliface := by
                      rw [hrc]
                      unfold recV
                      show (match slotV env with | .tup [] => PV.niliface | _ => p) = _
                      rw [hsl]
                    rw [this]
                    exact hnil L
              | _ => cases hrec
            | _ => cases hrec
          | _ => cases hrec
theorem uj5 {rc : Option (Option PV)} {pr : List Tmp} {ops : Array Oper} {o : Oper} {v : PV} (hs : slotV env = .undef ∨ slotV env = .tup []) (hr : u08 o = false) (hd : okDst true pr env o.dst = true) : slotV (put rc ops env o v) = slotV env := by
  have hg : slotV (giveUp env (given ops o)) = slotV env := by
    unfold slotV at hs ⊢
    rw [u37]
    unfold giveUp
    split
    · rw [u3o]
      split
      · rename_i hh
        rw [hh.1]
        exact u7g hs
      · rfl
    · rw [u3o]
      split
      · rename_i hh
        rw [hh.1]
        exact u5f _ hs
      · rfl
    · rfl
  have htook : took rc o (giveUp env (given ops o)) = giveUp env (given ops o) := by
    unfold took
    simp [hr]
  unfold Pi.put
  rw [htook]
  cases hdst : o.dst with
  | none => exact hg
  | some d =>
    rw [hdst] at hd
    have h1 := u8c hd
    show slotV ((giveUp env (given ops o)).set d v) = _
    rw [ucm (by rw [u37]; exact h1)]
    exact hg
theorem u4l (hC : CSound c.P c.C) (hrc : c.rc = some rv) {LL : LoopT} :
    ∀ (co : Code) (af : List Tmp) (k : K) (Q : Exit → Act → List Frame → World → Prop), u3v co = true → (∀ e, LeafD c rv u c0 cs0 g0 w0 (.ok v0 H0) (k e) (Q e.to)) →
      ∀ env a w g H m, Glob g0 w0 g w → StaD c rv u g H env a w m → den c LL af co env k H = some (.ok v0 H0) → co.wpS c.P Q a ({ c0 with mode := m } :: cs0) w
  | .skip, af, k, Q, hs, hk, env, a, w, g, H, m, hgl, hS, h => wpS_of_wp (wp_skip (hk .normal env a w g H m hgl hS h))
  | .ret, af, k, Q, hs, hk, env, a, w, g, H, m, hgl, hS, h => wpS_of_wp (wp_ret (hk .ret env a w g H m hgl hS h))
  | .region id ops false, af, k, Q, hs, hk, env, a, w, g, H, m, hgl, hS, h => by
    refine wpS_region ?_
    have hs' : ∀ o ∈ ops.toList, u6e o = true := fun o ho => List.all_eq_true.mp hs o ho
    have := u6v (Q := Q) hC hrc (hk .normal) ops.toList 0 env a w g H m (fun j => by simp) hs' hgl hS h
    rwa [List.range_eq_range', ← Array.length_toList]
  | .region id ops true, af, k, Q, hs, hk, env, a, w, g, H, m, hgl, hS, h => by
    have h : guardM (c.P.follows .mixedOrders && commB ops) (bif modeA ops && (c.rc.isNone && c.prot.isEmpty) then dOpsAA c ops env (k .normal) else bif modeP ops && c.rc.isNone then dOpsP c ops env (k .normal) else bif ops.any u14 || c.rc.isSome then dOpsW c ops 0 [] ops.toList env (k .normal) else dOpsN c ops ops.toList env (k .normal)) H = some (.ok v0 H0) := h
    obtain ⟨hg, h⟩ := u03 h
    simp only [Bool.and_eq_true] at hg
    have hbr : (ops.any u14 || c.rc.isSome) = true := by rw [hrc]; simp
    have hbp : (modeP ops && c.rc.isNone) = false := by rw [hrc]; simp
    have hba : (modeA ops && (c.rc.isNone && c.prot.isEmpty)) = false := by rw [hrc]; simp
    rw [hba, hbp, hbr] at h
    have hT : TOk 1 g env a.tmps := by
      have := hS.sta.tok
      rw [hrc] at this
      exact this
    obtain ⟨e', H', L, l1, _, l3, l4, hk'⟩ := ufh ops.toList [] 0 env H (fun j => by simp) h
    refine wpS_of_wp (wp_region_any hg.1 (u4o (c := c) (Q := fun e a w => Q e a ({ c0 with mode := m } :: cs0) w) hC hg.2 (R := fun l e K => slotV e = slotV env ∧ RW c ops e' H' l e K) (Δ := []) (g0 := g) (w0 := w)
      (fun A i B oi e K hi ha hnb hR => ?_) (fun e K g' a' w' hR hgl' hS' => ?_) ops.size _ env H a _ g (by simp) ?_ ?_ ?_ (u4g g w) hS.sta.drew))
    · obtain ⟨r1, r2⟩ := hR
      obtain ⟨h1, v, H1, h2, h3⟩ := RW.front hg.2 A i B oi e K hi ha hnb r2
      refine ⟨h1, v, H1, h2, ?_, h3⟩
      rw [hrc] at h1
      rw [uj5 (by rw [r1]; exact ucd hT) (u1r hg.2 hi).1 h1, r1]
    · obtain ⟨r1, r2⟩ := hR
      obtain ⟨rfl, rfl⟩ := r2.nil
      refine hk .normal e a' w' g' K m (hgl.trans hgl') ⟨hS', hS.mode.mono hgl'.up.ι hgl'.up.im, by rw [r1]; exact hS.now, ?_⟩ hk'
      have := hS'.defs
      cases hd : a'.defers with
      | nil => rfl
      | cons x y => rw [hd] at this; exact this.elim
    · exact Nat.le_trans (List.length_filter_le _ _) (by simp)
    · intro j i hj hl
      simp [Array.getD_eq_getD_getElem?, hj] at hl
    · refine ⟨rfl, ?_⟩
      have hall : restOf ops (Array.replicate ops.size false) = List.range' 0 ops.toList.length := by
        unfold restOf
        rw [List.filter_eq_self.mpr, List.range_eq_range', Array.length_toList]
        intro i hi
        simp [Array.getD_eq_getD_getElem?, List.mem_range.mp hi]
      rw [hall]
      exact ⟨L, l1, l3, l4⟩
  | .seq y z, af, k, Q, hs, hk, env, a, w, g, H, m, hgl, hS, h => by
    have hs1 : u3v y = true ∧ u3v z = true := by simpa [u3v] using hs
    refine wpS_seq (u4l hC hrc y ((rw z).1 ++ af) _ (Exit.thenS (z.wpS c.P Q) Q) hs1.1 (fun e => ?_) env a w g H m hgl hS h)
    cases e with
    | normal =>
      intro env a w g H m hgl hS h
      have h : (bif c.rc.isNone && joinB y then LL af z (keep ((rw z).1 ++ af) env) k else den c LL af z env k) H = some (.ok v0 H0) := h
      rw [hrc] at h
      exact u4l hC hrc z af k Q hs1.2 hk env a w g H m hgl hS h
    | exit id => exact hk (.exit id)
    | ret => exact hk .ret
  | .cond q y z, af, k, Q, hs, hk, env, a, w, g, H, m, hgl, hS, h => by
    have hs1 : u3v y = true ∧ u3v z = true := by simpa [u3v] using hs
    have rq := ev_rep hS.sta.inv hS.sta.tok q
    have h : condM (ev env q) (den c LL af y env k) (den c LL af z env k) H = some (.ok v0 H0) := h
    unfold condM at h
    cases hv : ev env q with
    | bool b =>
      rw [hv] at h rq
      have hq := rq.bool
      dsimp only at h
      refine wpS_cond hq ?_
      cases b
      · exact u4l hC hrc z af k Q hs1.2 hk env a w g H m hgl hS h
      · exact u4l hC hrc y af k Q hs1.1 hk env a w g H m hgl hS h
    | _ => (rw [hv] at h; exact (u00 (H := H) h).elim)
theorem TOk.slotted {tm : Array Value} (h : TOk 0 g env tm) : TOk 1 g (env ++ [.undef]) tm := by
  have hl := h.len
  refine ⟨Nat.le_refl 1, by simp [hl], fun t v p hv hp => ?_, fun t p ht hp => ?_⟩
  · have h1 := (Array.getElem?_eq_some_iff.mp hv).1
    rw [List.getElem?_append_left (by omega)] at hp
    exact h.val t v p hv hp
  · rw [List.getElem?_append_right (by omega)] at hp
    have := List.mem_of_getElem? hp
    exact .inl (by simpa using this)
theorem uin {m : M PV} {o : Out PV} (h : noPan m H = some o) : ∃ v H', o = .ok v H' ∧ m H = some (.ok v H') := by
  unfold noPan at h
  split at h
  · rename_i v H' hm
    cases h
    exact ⟨v, H', rfl, hm⟩
  · cases h
theorem umu {m : M PV} {v : PV} {H' : Heap} (h : trunc m H = some (.ok v H')) : ∃ H1, m H = some (.ok v H1) ∧ H' = bif v.low H.length then H1.take H.length else H1 := by
  unfold trunc at h
  split at h
  · cases h
  · rename_i v1 H1 hm
    cases h
    exact ⟨H1, hm, rfl⟩
  · rename_i v1 H1 hm
    cases hl : v1.low H.length <;> rw [hl] at h <;> cases h
theorem ud7 {C : CallT} {CD : Option PV → CallT} {LL : Option (Option PV) → List Tmp → (Env → M PV) → LoopT} (hC : CSound P C) {rv : Option PV} {f : FuncId} {args : List PV} {out : Out PV} (h : fnDenD P C CD LL rv f args H = some out) :
    u41 P f = true ∧ ∃ v H', out = .ok v H' ∧ ∀ g w cargs u, Inv g H w → ArgsOk g args cargs → ModeOk g rv u →
      CallsD P f cargs u w fun e u' w' => ∃ g' cv, Glob g w g' w' ∧ Grow u4f g g' ∧ e = .returned cv ∧ Inv g' H' w' ∧ u' = u2y v u := by
  unfold fnDenD at h
  cases hf : P.funcs[f]? with
  | none => rw [hf] at h; exact (u00 (H := H) h).elim
  | some fn =>
    rw [hf] at h
    dsimp only at h
    cases hb : fn.body with
    | none => rw [hb] at h; exact (u00 (H := H) h).elim
    | some b =>
      rw [hb] at h
      dsimp only at h
      obtain ⟨hn, h⟩ := u03 h
      simp only [Bool.and_eq_true] at hn
      obtain ⟨hsb, hre, hn⟩ := hn
      obtain ⟨v, H', rfl, h2⟩ := uin h
      obtain ⟨H1, h3, rfl⟩ := umu h2
      refine ⟨by unfold u41; rw [hf]; simp only [hn, hb]; rfl, v, _, rfl, fun g w cargs u hi ha hm => ?_⟩
      refine callsD_of_wpS hf hb fun c₀ cs hu => ?_
      have hend : ∀ (env : Env) (a : Act) (w1 : World) (g1 : G) (H2 : Heap) (m : FrameMode), Glob (g.ren upF) w g1 w1 → StaD ⟨P, protOf fn, C, CD, some rv, resM P fn⟩ rv u g1 H2 env a w1 m → M.pure (env.getD (env.length - 1) .undef) H2 = some (.ok v H1) →
          a.defers = [] ∧ ∃ u', ({ c₀ with mode := m } : Frame) :: cs = { c₀ with mode := u' } :: cs ∧ ∃ vv, (results fn a.tmps).run P w1 = .ok vv w1 ∧ ∃ g' cv, Glob g w g' w1 ∧ Grow u4f g g' ∧ Ending.returned vv = .returned cv ∧ Inv g' (bif v.low H.length then H1.take H.length else H1) w1 ∧ u' = u2y v u := by
        intro env a w1 g1 H2 m hgl hS hp
        simp only [M.pure, Option.some.injEq, Out.ok.injEq] at hp
        obtain ⟨hv, rfl⟩ := hp
        have hrs : (results fn a.tmps).run P w1 = .ok (.tuple #[]) w1 := by
          have he : fn.results.toList = [] := by
            have : fn.results = #[] := by simpa using hre
            rw [this]
          have := u9q (P := P) (w := w1) (fn := fn) (tm := a.tmps) (vs := []) (by rw [he]; rfl)
          simpa using this
        have hsl : v = .undef ∨ v = .tup [] := by
          have := ucd (hS.sta.tok : TOk 1 g1 env a.tmps)
          rw [← hv]
          exact this
        have hrep : RepT g1 .res v (.tuple #[]) := by
          rcases hsl with rfl | rfl
          · exact .one (.undef _)
          · exact .tup rfl fun j p q hp => by simp at hp
        obtain ⟨g', h1, h2, cv, h3, h4, h5⟩ := uk1 hi.len hgl hS.sta.inv hrep
        refine ⟨hS.defs, m, rfl, _, hrs, g', cv, h1, h2, h3, h4, ?_⟩
        rw [hS.now, ← hv]
        rfl
      have hst : StaD ⟨P, protOf fn, C, CD, some rv, resM P fn⟩ rv u (g.ren upF) H (args ++ List.replicate (fn.ntmps - args.length) .undef ++ [.undef]) { tmps := cargs ++ Array.replicate (fn.ntmps - cargs.size) undef, defers := [] } w u := by
        refine ⟨⟨hi.ren (fun _ _ => rfl), (ud2 ha).slotted, True.intro⟩, hm.mono (fun _ _ h => h) (fun _ _ _ h => h), ?_, rfl⟩
        have : slotV (args ++ List.replicate (fn.ntmps - args.length) .undef ++ [.undef]) = .undef := by
          unfold slotV
          simp
        rw [this]
        unfold u2y
        split <;> first | rfl | (rename_i h; cases h)
      have := u4l (c := ⟨P, protOf fn, C, CD, some rv, resM P fn⟩) (u := u) (c0 := c₀) (cs0 := cs) (g0 := g.ren upF) (w0 := w) hC rfl b (fn.ntmps :: u7n fn) _ (bodyPostS P fn c₀ cs fun e u' w' => ∃ g' cv, Glob g w g' w' ∧ Grow u4f g g' ∧ e = .returned cv ∧ Inv g' (bif v.low H.length then H1.take H.length else H1) w' ∧ u' = u2y v u) hsb (fun e => ?_) _ _ w (g.ren upF) H u (Glob.refl _ _) hst h3
      · have e : ({ c₀ with mode := u } : Frame) = c₀ := by rw [← hu]
        rw [e] at this
        exact this
      · cases e with
        | normal => exact fun env a w g H m hgl hS h => hend env a w g H m hgl hS h
        | ret => exact fun env a w g H m hgl hS h => hend env a w g H m hgl hS h
        | exit id => exact fun env a w g H m hgl hS h => (u00 (H := H) h).elim
end Go.Proofs.YtiiepllnnjjmaaaDoor.Pi
namespace Go.Proofs.YtiiepllnnjjmaaaDoor.Pi
variable {P : Program} {X : ExtT} {H : Heap}
def XSound (P : Program) (X : ExtT) : Prop :=
  ∀ f m, X f = some m → ∀ args H out, m args H = some out → u41 P f = true ∧ ∀ g w cargs, Inv g H w → ArgsOk g args cargs → Calls P f cargs w (u3n g w out)
theorem ukx (hX : XSound P X) (n : Nat) : CSound P (sem P X n).C ∧ ufi P (sem P X n).CD := by
  induction n using Nat.strongRecOn with
  | _ n ih =>
    cases n with
    | zero => exact ⟨fun f args H out h => (u00 (H := H) h).elim, fun rv f args H out h => (u00 (H := H) h).elim⟩
    | succ n =>
      have hn := ih n (Nat.lt_succ_self n)
      refine ⟨fun f args H out h => ?_, fun rv f args H out h => ud7 hn.1 h⟩
      have h : (match X f with | some m => m args | none => fnDen P (sem P X n).C (sem P X n).CD (sem P X n).L f args) H = some out := h
      cases hf : X f with
      | some m => rw [hf] at h; exact hX f m hf args H out h
      | none =>
        rw [hf] at h
        exact uff hn.1 hn.2 (fun fn => uiz n (fun m hm => (ih m (by omega)).1) _ _ _ (fun m hm r f a => uka m r f a (by omega)) n (Nat.le_refl n)) h
theorem uft (hX : XSound P X) : CSound P (callW P X) := by
  intro f args H out h
  obtain ⟨n, hn⟩ := ((uc5 P X f args).lim H out).mp h
  exact (ukx hX n).1 f args H out hn
theorem noX : XSound P (fun _ => none) := fun f m h => by cases h
end Go.Proofs.YtiiepllnnjjmaaaDoor.Pi
namespace Go.Proofs.YtiiepllnnjjmaaaDoor.Pi
noncomputable def kAt (c : Ctx) (L : LoopT) : List Nat → List Tmp → Code → K → List Tmp × Code × K
  | [], af, co, k => (af, co, k)
  | 0 :: p, af, .seq a b, k => kAt c L p ((rw b).1 ++ af) a fun
    | .normal, env' => bif c.rc.isNone && joinB a then L af b (keep ((rw b).1 ++ af) env') k else den c L af b env' k
    | e, env' => k e env'
  | _ :: p, af, .seq a b, k => kAt c L p af b k
  | 0 :: p, af, .cond _ a b, k => kAt c L p af a k
  | _ :: p, af, .cond _ a b, k => kAt c L p af b k
  | _ :: p, af, .block id b, k => kAt c L p af b fun
    | .exit i, env' => bif i == id then k .normal env' else k (.exit i) env'
    | e, env' => k e env'
  | _ :: p, af, .loop b, k => kAt c L p (alive af b) b fun
    | .normal, env' => L af (.loop b) (keep (alive af b) env') k
    | e, env' => k e env'
  | _, af, co, k => (af, co, k)
section
variable (P : Program) (X : ExtT)
noncomputable def kOf (f : FuncId) (p : List Nat) : List Tmp × Code × K :=
  match P.funcs[f]? with
  | some fn => match fn.body with
    | some b => kAt (ctxW P X none (protOf fn) (resM P fn)) (loopW P X none (protOf fn) (resM P fn)) p (u7n fn) b fun
      | .exit _, _ => M.fail
      | _, env => resM P fn env
    | none => ([], .skip, fun _ _ => M.fail)
  | none => ([], .skip, fun _ _ => M.fail)
noncomputable def ctxOf (f : FuncId) : Ctx :=
  match P.funcs[f]? with
  | some fn => ctxW P X none (protOf fn) (resM P fn)
  | none => ctxW P X none [] (fun _ => M.fail)
noncomputable def atP (f : FuncId) (p : List Nat) (env : Env) : M PV :=
  loopW P X none (ctxOf P X f).prot (ctxOf P X f).res (kOf P X f p).1 (kOf P X f p).2.1 env (kOf P X f p).2.2
noncomputable def stepP (f : FuncId) (p : List Nat) (env : Env) : M PV :=
  go1 (ctxW P X none (ctxOf P X f).prot (ctxOf P X f).res) (loopW P X none (ctxOf P X f).prot (ctxOf P X f).res) (kOf P X f p).1 (kOf P X f p).2.1 env (kOf P X f p).2.2
theorem u13 (f : FuncId) (p : List Nat) (env : Env) : atP P X f p env = stepP P X f p env := uma P X none _ _ _ _ _ _
def mkEnv : Nat → Nat → List (Nat × PV) → Env
  | 0, _, _ => []
  | n + 1, i, (j, v) :: r => bif i == j then v :: mkEnv n (i + 1) r else .undef :: mkEnv n (i + 1) ((j, v) :: r)
  | n + 1, i, [] => .undef :: mkEnv n (i + 1) []
end
end Go.Proofs.YtiiepllnnjjmaaaDoor.Pi
namespace Go.Proofs.YtiiepllnnjjmaaaDoor.Pi
theorem nrfl {γ : Sort _} {a b : γ} (h : a = b) : a = b := h
variable {α β : Type} {H : Heap} {k : IntKind} {a b n m : Int} {x y : PV} {ek : EqK}
@[simp] theorem ud6 : strip (.int k n) = .int k n := nrfl rfl
@[simp] theorem ub7 {t : Bool} : strip (.bool t) = .bool t := nrfl rfl
@[simp] theorem ude {s : ByteArray} : strip (.str s) = .str s := nrfl rfl
@[simp] theorem u9u {o z : Bool} {sz : Nat} {xs : List PV} : strip (.slice o z sz xs) = .slice false z sz xs := nrfl rfl
@[simp] theorem udn {i o : Nat} : strip (.ptr i o) = .ptr i o := nrfl rfl
@[simp] theorem uf1 {cs : List PV} : strip (.agg cs) = .agg cs := nrfl rfl
@[simp] theorem ub1 {cs : List PV} : strip (.elem cs) = .elem cs := nrfl rfl
@[simp] theorem uek : strip .nil = .nil := nrfl rfl
@[simp] theorem u6j : strip .niliface = .niliface := nrfl rfl
@[simp] theorem u90 {t : TypeId} {v : PV} : strip (.iface t v) = .iface t v := nrfl rfl
@[simp] theorem ugb {f : FuncId} {u v : List PV} : strip (.fn f u v) = .fn f u v := nrfl rfl
@[simp] theorem uai : strip .undef = .undef := nrfl rfl
@[simp] theorem udx {vs : List PV} : strip (.tup vs) = .tup (vs.map stripC) := nrfl rfl
@[simp] theorem u34 : stripC (.int k n) = .int k n := nrfl rfl
@[simp] theorem uaf {t : Bool} : stripC (.bool t) = .bool t := nrfl rfl
@[simp] theorem ub5 {s : ByteArray} : stripC (.str s) = .str s := nrfl rfl
@[simp] theorem u80 {o z : Bool} {sz : Nat} {xs : List PV} : stripC (.slice o z sz xs) = .slice false z sz xs := nrfl rfl
@[simp] theorem uau {i o : Nat} : stripC (.ptr i o) = .ptr i o := nrfl rfl
@[simp] theorem ubw {cs : List PV} : stripC (.agg cs) = .agg cs := nrfl rfl
@[simp] theorem uaw : stripC .nil = .nil := nrfl rfl
@[simp] theorem u5k : stripC .niliface = .niliface := nrfl rfl
@[simp] theorem u7r {t : TypeId} {v : PV} : stripC (.iface t v) = .iface t v := nrfl rfl
@[simp] theorem uex {f : FuncId} {u v : List PV} : stripC (.fn f u v) = .fn f u v := nrfl rfl
@[simp] theorem bi_add : bi .add ek (.int k a) (.int k b) = M.pure (.int k (k.wrap (a + b))) := nrfl (by cases k <;> rfl)
@[simp] theorem bi_sub : bi .sub ek (.int k a) (.int k b) = M.pure (.int k (k.wrap (a - b))) := nrfl (by cases k <;> rfl)
@[simp] theorem bi_mul : bi .mul ek (.int k a) (.int k b) = M.pure (.int k (k.wrap (a * b))) := nrfl (by cases k <;> rfl)
@[simp] theorem bi_eql : bi .eql ek (.int k a) (.int k b) = M.pure (.bool (a == b)) := nrfl (by cases k <;> rfl)
@[simp] theorem bi_neq : bi .neq ek (.int k a) (.int k b) = M.pure (.bool (a != b)) := nrfl (by cases k <;> rfl)
@[simp] theorem bi_lss : bi .lss ek (.int k a) (.int k b) = M.pure (.bool (decide (a < b))) := nrfl (by cases k <;> rfl)
@[simp] theorem bi_leq : bi .leq ek (.int k a) (.int k b) = M.pure (.bool (decide (a ≤ b))) := nrfl (by cases k <;> rfl)
@[simp] theorem bi_gtr : bi .gtr ek (.int k a) (.int k b) = M.pure (.bool (decide (a > b))) := nrfl (by cases k <;> rfl)
@[simp] theorem bi_geq : bi .geq ek (.int k a) (.int k b) = M.pure (.bool (decide (a ≥ b))) := nrfl (by cases k <;> rfl)
@[simp] theorem uk8 {s t : ByteArray} : bi .eql ek (.str s) (.str t) = M.pure (.bool (s.toList == t.toList)) := nrfl rfl
@[simp] theorem ulu {s t : ByteArray} : bi .neq ek (.str s) (.str t) = M.pure (.bool (!(s.toList == t.toList))) := nrfl rfl
@[simp] theorem ujo {s t : Bool} : bi .eql .bool (.bool s) (.bool t) = M.pure (.bool (s == t)) := nrfl rfl
@[simp] theorem ul9 {s t : Bool} : bi .neq .bool (.bool s) (.bool t) = M.pure (.bool (!(s == t))) := nrfl rfl
@[simp] theorem un_not {t : Bool} : un .not (.bool t) = M.pure (.bool (!t)) := nrfl rfl
@[simp] theorem ued {o z : Bool} {sz : Nat} {xs : List PV} : lnL (.slice o z sz xs) = M.pure (.int .i64 xs.length) := nrfl rfl
@[simp] theorem ujg {s : ByteArray} : lnS (.str s) = M.pure (.int .i64 s.size) := nrfl rfl
@[simp] theorem mx_int : mx (.int k a) (.int k b) = M.pure (.int k (if b > a then b else a)) := nrfl (by cases k <;> rfl)
@[simp] theorem mn_int : mn (.int k a) (.int k b) = M.pure (.int k (if b < a then b else a)) := nrfl (by cases k <;> rfl)
@[simp] theorem cv_int {o : Bool} {j : IntKind} : cv (.int k) o (.int j n) = M.pure (.int k (k.wrap n)) := nrfl rfl
@[simp] theorem uob {v : PV} {r : List PV} : ex 0 (.tup (v :: r)) = M.pure v := nrfl rfl
@[simp] theorem uoc {u v : PV} {r : List PV} : ex 1 (.tup (u :: v :: r)) = M.pure v := nrfl rfl
@[simp] theorem uoa {t u v : PV} {r : List PV} : ex 2 (.tup (t :: u :: v :: r)) = M.pure v := nrfl rfl
end Go.Proofs.YtiiepllnnjjmaaaDoor.Pi
namespace Go.Proofs.YtiiepllnnjjmaaaDoor.Pi
variable {P : Program} {X : ExtT}
def gOf (im : Nat → Nat → Option Value) : G := ⟨[], im, fun _ => none⟩
theorem unn {im : Nat → Nat → Option Value} {w : World} (him : ∀ b o v, im b o = some v → w.cell? ⟨b, o, none⟩ = some v) (hg : GlobOk im) : Inv (gOf im) [] w :=
  ⟨rfl, fun i j b h => by simp [gOf] at h, him, fun b L s h => by simp [gOf] at h, fun id b y h => by simp [gOf] at h, hg⟩
theorem walk_law (hX : XSound P X) {f : FuncId} {args : List PV} {H' : Heap} (h : callW P X f args [] = some (.ok (.bool true) H')) {im : Nat → Nat → Option Value} {w : World} {cargs : Array Value}
    (him : ∀ b o v, im b o = some v → w.cell? ⟨b, o, none⟩ = some v) (ha : ArgsOk (gOf im) args cargs) (hg : GlobOk im) : Calls P f cargs w fun e w' => e = .returned (.bool true) ∧ RowKit.Below w.heap.size w w' := by
  obtain ⟨_, hs⟩ := uft hX f args [] _ h
  refine (hs (gOf im) w cargs (unn him hg) ha).mono ?_
  rintro e w' ⟨g', hgl, hgr, cv, rfl, hi, hr⟩
  have hv : cv = .bool true := by
    cases hr with
    | one hr => cases hr with
      | pure hr => cases hr with
        | flat hr => cases hr; rfl
  subst hv
  exact ⟨rfl, hgl.os, hgl.tape, hgl.output, hgl.size, fun k hk => (hgl.old k hk rfl (by simp [gOf])).2.2⟩
end Go.Proofs.YtiiepllnnjjmaaaDoor.Pi
namespace Go.Proofs.YtiiepllnnjjmaaaDoor.Pi
variable {α β : Type} {H : Heap} {k j : IntKind} {a b n m : Int} {x y : PV} {ek : EqK}
def resT (v : PV) (m : M PV) : M PV := bif isTup v then M.fail else m
def hget (H : Heap) (id : Nat) : Option Box := H[id]?
def hset (H : Heap) (id : Nat) (b : Box) : Heap := H.set id b
def hadd (H : Heap) (L : List Box) : Heap := H ++ L
def hcut (H : Heap) (n : Nat) : Heap := H.take n
abbrev hlen (H : Heap) : Nat := List.length H
def run (m : M α) (H : Heap) : Option (Out α) := m H
def bindR (r : Option (Out α)) (f : α → M β) : Option (Out β) :=
  match r with
  | none => none
  | some (.ok v H) => run (f v) H
  | some (.pan v H) => some (.pan v H)
def truncR (H : Heap) (r : Option (Out PV)) : Option (Out PV) :=
  match r with
  | none => none
  | some (.ok v H') => some (.ok v (bif v.low H.length then hcut H' H.length else H'))
  | some (.pan v H') => bif v.low H.length then some (.pan v (hcut H' H.length)) else none
noncomputable def nbR (H : Heap) (r : Option (Out α)) (f : α → M β) : Option (Out β) := nb (fun _ => r) f H
@[congr] theorem uo2 {r r' : Option (Out α)} {f : α → M β} (h : r = r') : bindR r f = bindR r' f := by rw [h]
@[congr] theorem uo9 {r r' : Option (Out α)} {f : α → M β} (h : r = r') : nbR H r f = nbR H r' f := by rw [h]
@[congr] theorem unx {c c' : PV} {x y : M α} (h : c = c') : condM c x y = condM c' x y := by rw [h]
@[congr] theorem unc {c c' : Bool} {x : M α} (h : c = c') : guardM c x = guardM c' x := by rw [h]
@[congr] theorem uo6 {c c' : PV} {x : M PV} (h : c = c') : resT c x = resT c' x := by rw [h]
theorem run_bind {m : M α} {f : α → M β} : run (M.bind m f) H = bindR (run m H) f := nrfl rfl
theorem uhj {f : α → M β} {v : α} {H : Heap} : bindR (some (.ok v H)) f = run (f v) H := nrfl rfl
theorem uax {f : α → M β} : bindR none f = none := nrfl rfl
theorem uea {f : α → M β} {v : PV} {H : Heap} : bindR (some (.pan v H)) f = some (.pan v H) := nrfl rfl
theorem ucp {c : Prop} [Decidable c] {r r' : Option (Out α)} {f : α → M β} : bindR (if c then r else r') f = if c then bindR r f else bindR r' f := by split <;> rfl
theorem run_nb {m : M α} {f : α → M β} : run (nb m f) H = nbR H (run m H) f := nrfl rfl
theorem nbR_ok {f : α → M β} {v : α} : nbR H (some (.ok v H)) f = run (f v) H := by simp [nbR, nb, run]
theorem ujd {c : Prop} [Decidable c] {r r' : Option (Out α)} {f : α → M β} : nbR H (if c then r else r') f = if c then nbR H r f else nbR H r' f := by split <;> rfl
theorem u9s {m : M PV} : run (trunc m) H = truncR H (run m H) := nrfl rfl
theorem uap {c : Prop} [Decidable c] {r r' : Option (Out PV)} : truncR H (if c then r else r') = if c then truncR H r else truncR H r' := by split <;> rfl
theorem ua9 : truncR H none = none := nrfl rfl
theorem ues {v : PV} {H' : Heap} : truncR H (some (.ok v H')) = some (.ok v (if v.low H.length = true then hcut H' H.length else H')) := by
  show some (Out.ok v (bif v.low H.length then hcut H' H.length else H')) = _
  cases v.low H.length <;> rfl
theorem u7d {v : PV} {H' : Heap} : truncR H (some (.pan v H')) = if v.low H.length = true then some (.pan v (hcut H' H.length)) else none := by
  show (bif v.low H.length then some (Out.pan v (hcut H' H.length)) else none) = _
  cases v.low H.length <;> rfl
theorem ueb {c : Bool} {m : M α} : run (guardM c m) H = if c = true then run m H else none := by cases c <;> rfl
theorem uga {v : PV} {m : M PV} : run (resT v m) H = if isTup v = true then none else run m H := by unfold resT; cases isTup v <;> rfl
theorem uh6 {c : Bool} {x y : M α} : run (condM (.bool c) x y) H = if c = true then run x H else run y H := by cases c <;> rfl
theorem uln {c : Bool} {m : M PV} : run (gd (.bool c) true m) H = if c = true then run m H else some (.ok (.tup []) H) := by cases c <;> rfl
theorem ulq {c : Bool} {m : M PV} : run (gd (.bool c) false m) H = if c = true then some (.ok (.tup []) H) else run m H := by cases c <;> rfl
theorem ub0 : strip (.tup []) = .tup [] := nrfl rfl
theorem ulp {b : Bool} {m : M PV} : run (gd (.tup []) b m) H = some (.ok (.tup []) H) := nrfl rfl
theorem uhi {c : Bool} : run (pick (.bool c) x y) H = if c = true then some (.ok (strip x) H) else some (.ok (strip y) H) := by cases c <;> rfl
theorem run_pure {v : α} : run (M.pure v) H = some (.ok v H) := nrfl rfl
theorem uje {v : PV} : run (M.pan v : M α) H = some (.pan v H) := nrfl rfl
theorem uh7 : run (M.fail : M α) H = none := nrfl rfl
theorem run_al {cs : List PV} : run (al cs) H = if cs.all isCell = true then some (.ok (.ptr H.length 0) (hadd H [.cells cs])) else none := by unfold run al; cases cs.all isCell <;> rfl
theorem run_bx {n : Nat} {v : PV} : run (bx n v) H = if (v.cells.map stripC).length = n ∧ lowL (H.length + 1) (v.cells.map stripC) = true ∧ v.cells.all isCell = true then some (.ok (.ptr H.length 0) (hadd H [.cells (v.cells.map stripC)])) else none := by
  unfold run bx
  cases h1 : ((v.cells.map stripC).length == n) <;> cases h2 : lowL (H.length + 1) (v.cells.map stripC) <;> cases h3 : v.cells.all isCell <;> simp_all [hadd]
theorem u6l (a b : Nat) : (a == b) = decide (a = b) := by rw [Bool.eq_iff_iff]; simp
def ldB (n : Option Nat) (mv : Bool) (id o : Nat) (H : Heap) : Option Box → Option (Out PV)
  | some (.cells cs) => match n with
      | none => match cs[o]? with
        | some v => bif mv then some (.ok v (hset H id (.cells (cs.set o (stripC v))))) else some (.ok (stripC v) H)
        | none => none
      | some n => bif decide (o + n ≤ cs.length) then some (.ok (.agg (((cs.drop o).take n).map stripC)) H) else none
  | _ => none
theorem run_ld {n : Option Nat} {mv : Bool} {id o : Nat} : run (ld n mv (.ptr id o)) H = ldB n mv id o H (hget H id) := by
  unfold run ld ldB
  rfl
def stB (n : Nat) (mv : Bool) (id o : Nat) (v : PV) (H : Heap) : Option Box → Option (Out PV)
  | some (.cells cs) => bif v.cells.length == n && (decide (o + n ≤ cs.length) && (lowL (id + 1) v.cells && v.cells.all isCell)) then
        some (.ok .undef (hset H id (.cells (fillAt o (bif mv then v.cells else v.cells.map stripC) cs))))
      else none
  | _ => none
theorem run_st {n : Nat} {mv : Bool} {id o : Nat} {v : PV} : run (st n mv (.ptr id o) v) H = stB n mv id o v H (hget H id) := by
  unfold run st stB
  rfl
theorem uh8 {n : Nat} {mv : Bool} {id o : Nat} {cs : List PV} : ldB (some n) mv id o H (some (.cells cs)) = if o + n ≤ cs.length then some (.ok (.agg (((cs.drop o).take n).map stripC)) H) else none := by
  show (bif decide (o + n ≤ cs.length) then some (Out.ok (PV.agg (((cs.drop o).take n).map stripC)) H) else none) = _
  by_cases h : o + n ≤ cs.length <;> simp [h]
def nth : List α → Nat → Option α
  | [], _ => none
  | v :: _, 0 => some v
  | _ :: r, n + 1 => nth r n
theorem ug7 {v : α} {r : List α} : nth (v :: r) 0 = some v := nrfl rfl
theorem ugi {v : α} {r : List α} {n : Nat} : nth (v :: r) (n + 1) = nth r n := nrfl rfl
theorem nth_is : ∀ (l : List α) (n : Nat), l[n]? = nth l n
  | [], _ => rfl
  | _ :: _, 0 => rfl
  | _ :: r, n + 1 => nth_is r n
def ldTR (H : Heap) (id : Nat) (cs : List PV) (o : Nat) : Option PV → Option (Out PV)
  | some v => some (.ok v (hset H id (.cells (cs.set o (stripC v)))))
  | none => none
def ldFR (H : Heap) : Option PV → Option (Out PV)
  | some v => some (.ok (stripC v) H)
  | none => none
theorem uf7 {id : Nat} {cs : List PV} {o : Nat} {v : PV} : ldTR H id cs o (some v) = some (.ok v (hset H id (.cells (cs.set o (stripC v))))) := nrfl rfl
theorem ue4 {v : PV} : ldFR H (some v) = some (.ok (stripC v) H) := nrfl rfl
theorem ldB_t {id o : Nat} {cs : List PV} : ldB none true id o H (some (.cells cs)) = ldTR H id cs o (nth cs o) := by
  rw [← nth_is]; rfl
theorem ldB_f {id o : Nat} {cs : List PV} : ldB none false id o H (some (.cells cs)) = ldFR H (nth cs o) := by
  rw [← nth_is]; rfl
theorem stB_is {n : Nat} {mv : Bool} {id o : Nat} {v : PV} {cs : List PV} :
    stB n mv id o v H (some (.cells cs)) = if v.cells.length = n ∧ o + n ≤ cs.length ∧ lowL (id + 1) v.cells = true ∧ v.cells.all isCell = true then some (.ok .undef (hset H id (.cells (fillAt o (if mv = true then v.cells else v.cells.map stripC) cs)))) else none := by
  show (bif v.cells.length == n && (decide (o + n ≤ cs.length) && (lowL (id + 1) v.cells && v.cells.all isCell)) then some (Out.ok PV.undef (hset H id (.cells (fillAt o (bif mv then v.cells else v.cells.map stripC) cs)))) else none) = _
  cases hb : v.cells.all isCell <;> cases hc : lowL (id + 1) v.cells <;> by_cases h1 : v.cells.length = n <;> by_cases h2 : o + n ≤ cs.length <;> cases mv <;> simp [h1, h2, u6l (v.cells.length) n]
theorem uhg {mv : Bool} {cs : List PV} {c : PV} : run (ld none mv (.elem (c :: cs))) H = some (.ok c H) := nrfl rfl
theorem uic {mv : Bool} {n : Nat} {cs : List PV} : run (ld (some n) mv (.elem cs)) H = if n ≤ cs.length then some (.ok (.agg (cs.take n)) H) else none := by
  show (bif decide (n ≤ cs.length) then M.pure (PV.agg (cs.take n)) else M.fail) H = _
  by_cases h : n ≤ cs.length <;> simp [h, M.pure, M.fail]
theorem u2q {L : List Box} (k : Nat) : hget (hadd H L) (H.length + k) = nth L k := by unfold hget hadd; rw [List.getElem?_append_right (Nat.le_add_right _ _), Nat.add_sub_cancel_left, nth_is]
theorem u3p {L : List Box} : hget (hadd H L) H.length = nth L 0 := u2q 0
theorem u2i {L : List Box} {i : Nat} (h : i < H.length) : hget (hadd H L) i = hget H i := List.getElem?_append_left h
theorem uco {L : List Box} {x : Box} (k : Nat) : hset (hadd H L) (H.length + k) x = hadd H (L.set k x) := by unfold hset hadd; rw [List.set_append_right _ _ (Nat.le_add_right _ _), Nat.add_sub_cancel_left]
theorem ugw {L : List Box} {x : Box} : hset (hadd H L) H.length x = hadd H (L.set 0 x) := uco 0
theorem u9c {L : List Box} {i : Nat} {x : Box} (h : i < H.length) : hset (hadd H L) i x = hadd (hset H i x) L := List.set_append_left _ _ h
theorem u3h {i : Nat} {x : Box} (h : i < H.length) : hget (hset H i x) i = some x := by unfold hget hset; rw [List.getElem?_set_self h]
theorem ub8 {i k : Nat} {x : Box} (h : i ≠ k) : hget (hset H i x) k = hget H k := List.getElem?_set_ne h
theorem set_set {i : Nat} {x y : Box} : hset (hset H i x) i y = hset H i y := List.set_set _
theorem u9k {L K : List Box} : hadd (hadd H L) K = hadd H (L ++ K) := List.append_assoc _ _ _
theorem uc6 {A L : List Box} {n : Nat} (h : n = A.length) : hcut (hadd A L) n = A := by subst h; simp [hcut, hadd]
theorem ufx {A : List Box} {n : Nat} (h : n = A.length) : hcut A n = A := by subst h; simp [hcut]
theorem cut0 : hcut H H.length = H := ufx rfl
theorem cut1 {i : Nat} {x : Box} : hcut (hset H i x) H.length = hset H i x := ufx (by unfold hset; simp)
theorem cut2 {i j : Nat} {x y : Box} : hcut (hset (hset H i x) j y) H.length = hset (hset H i x) j y := ufx (by unfold hset; simp)
theorem cutA0 {L : List Box} : hcut (hadd H L) H.length = H := uc6 rfl
theorem cutA1 {L : List Box} {i : Nat} {x : Box} : hcut (hadd (hset H i x) L) H.length = hset H i x := uc6 (by unfold hset; simp)
theorem cutA2 {L : List Box} {i j : Nat} {x y : Box} : hcut (hadd (hset (hset H i x) j y) L) H.length = hset (hset H i x) j y := uc6 (by unfold hset; simp)
theorem u2z {L : List Box} : List.length (hadd H L) = H.length + L.length := List.length_append
theorem u0s {i : Nat} {x : Box} : List.length (hset H i x) = H.length := List.length_set
theorem u8i {L : List Box} {i : Nat} {y : Box} (k : Nat) : hget (hadd (hset H i y) L) (H.length + k) = nth L k := by
  have := u2q (H := hset H i y) (L := L) k
  rwa [u0s] at this
theorem u2f {L : List Box} {i : Nat} {y : Box} : hget (hadd (hset H i y) L) H.length = nth L 0 := u8i 0
theorem u8g {L : List Box} {i : Nat} {x y : Box} (k : Nat) : hset (hadd (hset H i y) L) (H.length + k) x = hadd (hset H i y) (L.set k x) := by
  have := uco (H := hset H i y) (L := L) (x := x) k
  rwa [u0s] at this
theorem u2h {L : List Box} {i : Nat} {x y : Box} : hset (hadd (hset H i y) L) H.length x = hadd (hset H i y) (L.set 0 x) := u8g 0
theorem u6d {L : List Box} {i j : Nat} {y : Box} (h : i < H.length) : hget (hadd (hset H j y) L) i = hget (hset H j y) i := u2i (by rw [u0s]; exact h)
theorem u68 {L : List Box} {i j : Nat} {x y : Box} (h : i < H.length) : hset (hadd (hset H j y) L) i x = hadd (hset (hset H j y) i x) L := u9c (by rw [u0s]; exact h)
theorem get_lt {i : Nat} {x : Box} (h : hget H i = some x) : i < H.length := (List.getElem?_eq_some_iff.mp h).1
theorem u71 {i : Nat} {x : Box} (h : hget H i = some x) : hset H i x = H := by
  obtain ⟨h1, h2⟩ := List.getElem?_eq_some_iff.mp h
  unfold hset; subst h2; exact List.set_getElem_self h1
theorem w_i64 (h : -9223372036854775808 ≤ n ∧ n ≤ 9223372036854775807) : IntKind.i64.wrap n = n := by rw [IntKind.wrap_i64]; omega
theorem w_u64 (h : 0 ≤ n ∧ n ≤ 18446744073709551615) : IntKind.u64.wrap n = n := by simp only [IntKind.wrap, IntKind.signed, IntKind.bits]; simp; omega
theorem w_u8 (h : 0 ≤ n ∧ n ≤ 255) : IntKind.u8.wrap n = n := by rw [IntKind.wrap_u8]; omega
theorem w_u32 (h : 0 ≤ n ∧ n ≤ 4294967295) : IntKind.u32.wrap n = n := by rw [IntKind.wrap_u32]; omega
theorem w_i32 (h : -2147483648 ≤ n ∧ n ≤ 2147483647) : IntKind.i32.wrap n = n := by rw [IntKind.wrap_i32]; omega
theorem uj7 (h : b ≠ 0) : bi .quo ek (.int k a) (.int k b) = M.pure (.int k (k.wrap (a.tdiv b))) := by
  have h' : (b == 0) = false := by simpa using h
  cases k <;> simp [bi, intOp, h']
theorem uk4 (h : b ≠ 0) : bi .rem ek (.int k a) (.int k b) = M.pure (.int k (a.tmod b)) := by
  have h' : (b == 0) = false := by simpa using h
  cases k <;> simp [bi, intOp, h']
def iaR (H : Heap) : Option PV → Option (Out PV)
  | some x => some (.ok (.elem x.cells) H)
  | none => none
theorem uia {x : PV} : iaR H (some x) = some (.ok (.elem x.cells) H) := nrfl rfl
theorem ufk {o z : Bool} {sz : Nat} {xs : List PV} (h0 : 0 ≤ n) : run (iaS sz (.slice o z sz xs) (.int k n)) H = iaR H xs[n.toNat]? := by
  unfold iaS iaR run
  have h' : decide (0 ≤ n) = true := by simpa using h0
  simp only [h', beq_self_eq_true, Bool.and_self, cond_true, u29, M.fail, M.pure]
  split <;> rename_i h <;> simp only [h] <;> rfl
theorem run_fa {off id o : Nat} : fa off (.ptr id o) = M.pure (.ptr id (o + off)) := nrfl rfl
theorem ujr {off : Nat} {cs : List PV} : fa off (.elem cs) = M.pure (.elem (cs.drop off)) := nrfl rfl
theorem u3q {P : Program} {C : CallT} {f : FuncId} {u v args : List PV} : callV P C (.fn f u v) args = C f (u ++ args ++ v) := nrfl rfl
theorem nc_ptr {P : Program} {i o : Nat} : nc P (.ptr i o) = M.pure (.ptr i o) := nrfl rfl
theorem uks {P : Program} {cs : List PV} : nc P (.elem cs) = M.pure (.elem cs) := nrfl rfl
theorem nc_nil {P : Program} : nc P .nil = M.pan (nilDeref P) := nrfl rfl
theorem run_mi {t : TypeId} {v : PV} : run (mi t v) H = if isVal v = true then some (.ok (.iface t (stripC v)) H) else none := by
  unfold run mi
  cases isVal v <;> rfl
theorem run_pn {t : TypeId} {v : PV} : pn (.iface t v) = M.pan (.iface t v) := nrfl rfl
theorem uj6 {o : Bool} : cv (.int k) o (.int j n) = M.pure (.int k (k.wrap n)) := nrfl rfl
theorem ulc {v : PV} {r : List PV} : ex 0 (.tup (v :: r)) = M.pure v := nrfl rfl
theorem ul6 {u v : PV} {r : List PV} : ex 1 (.tup (u :: v :: r)) = M.pure v := nrfl rfl
theorem ulm {u v x : PV} {r : List PV} : ex 2 (.tup (u :: v :: x :: r)) = M.pure x := nrfl rfl
theorem uhf {v : PV} {r : List PV} : tupDrop 0 (.tup (v :: r)) = .tup (stripC v :: r) := nrfl rfl
theorem uh0 {u v : PV} {r : List PV} : tupDrop 1 (.tup (u :: v :: r)) = .tup (u :: stripC v :: r) := nrfl rfl
theorem uhy {u v x : PV} {r : List PV} : tupDrop 2 (.tup (u :: v :: x :: r)) = .tup (u :: v :: stripC x :: r) := nrfl rfl
section
variable {c d : Bool} {s : ByteArray} {i o : Nat} {cs ds : List PV} {N : Nat}
theorem ucv : isTup (.int k n) = false := nrfl rfl
theorem ubj : isCell (.int k n) = true := nrfl rfl
theorem ue9 : isVal (.int k n) = true := nrfl rfl
theorem uei : isPtr (.int k n) = false := nrfl rfl
theorem ucs : PV.cells (.int k n) = [(.int k n)] := nrfl rfl
theorem ucb : PV.low N (.int k n) = true := by simp only [PV.low]
theorem ubi : isTup (.bool c) = false := nrfl rfl
theorem ua6 : isCell (.bool c) = true := nrfl rfl
theorem uaz : isVal (.bool c) = true := nrfl rfl
theorem ubt : isPtr (.bool c) = false := nrfl rfl
theorem ubm : PV.cells (.bool c) = [(.bool c)] := nrfl rfl
theorem ugy : PV.low N (.bool c) = true := by simp only [PV.low]
theorem udz : isTup (.str s) = false := nrfl rfl
theorem uas : isCell (.str s) = true := nrfl rfl
theorem uf6 : isVal (.str s) = true := nrfl rfl
theorem ue7 : isPtr (.str s) = false := nrfl rfl
theorem udt : PV.cells (.str s) = [(.str s)] := nrfl rfl
theorem uj4 : PV.low N (.str s) = true := by simp only [PV.low]
theorem uf4 : isTup .nil = false := nrfl rfl
theorem ub9 : isCell .nil = true := nrfl rfl
theorem uct : isVal .nil = true := nrfl rfl
theorem udq : isPtr .nil = false := nrfl rfl
theorem ud5 : PV.cells .nil = [.nil] := nrfl rfl
theorem uk2 : PV.low N .nil = true := by simp only [PV.low]
theorem ue3 : isTup (.ptr i o) = false := nrfl rfl
theorem ubc : isCell (.ptr i o) = true := nrfl rfl
theorem uds : isVal (.ptr i o) = true := nrfl rfl
theorem uez : isPtr (.ptr i o) = true := nrfl rfl
theorem uf3 : PV.cells (.ptr i o) = [(.ptr i o)] := nrfl rfl
theorem u97 : PV.low N (.ptr i o) = decide (i < N) := by simp only [PV.low]
theorem ubn : isTup (.elem cs) = false := nrfl rfl
theorem u9v : isCell (.elem cs) = true := nrfl rfl
theorem ubk : isVal (.elem cs) = true := nrfl rfl
theorem ubp : isPtr (.elem cs) = false := nrfl rfl
theorem ubf : PV.cells (.elem cs) = [(.elem cs)] := nrfl rfl
theorem ugs : PV.low N (.elem cs) = true := by simp only [PV.low]
theorem u8p : isTup (.slice c d i cs) = false := nrfl rfl
theorem u7s : isCell (.slice c d i cs) = true := nrfl rfl
theorem uaj : isVal (.slice c d i cs) = true := nrfl rfl
theorem u9i : isPtr (.slice c d i cs) = false := nrfl rfl
theorem u9t : PV.cells (.slice c d i cs) = [(.slice c d i cs)] := nrfl rfl
theorem u5a : PV.low N (.slice c d i cs) = true := by simp only [PV.low]
theorem ui1 : isTup (.fn i cs ds) = false := nrfl rfl
theorem uf5 : isCell (.fn i cs ds) = true := nrfl rfl
theorem ugr : isVal (.fn i cs ds) = true := nrfl rfl
theorem uhl : isPtr (.fn i cs ds) = false := nrfl rfl
theorem uhd : PV.cells (.fn i cs ds) = [(.fn i cs ds)] := nrfl rfl
theorem low_fn : PV.low N (.fn i cs ds) = (lowL N cs && lowL N ds) := by simp only [PV.low]
theorem uac : isTup .nilfn = false := nrfl rfl
theorem u7w : isCell .nilfn = true := nrfl rfl
theorem uae : isVal .nilfn = true := nrfl rfl
theorem u9r : isPtr .nilfn = false := nrfl rfl
theorem u9d : PV.cells .nilfn = [.nilfn] := nrfl rfl
theorem uf0 : PV.low N .nilfn = true := by simp only [PV.low]
theorem u96 : isTup (.iface i x) = false := nrfl rfl
theorem u7u : isCell (.iface i x) = true := nrfl rfl
theorem u8y : isVal (.iface i x) = true := nrfl rfl
theorem u9g : isPtr (.iface i x) = false := nrfl rfl
theorem u9o : PV.cells (.iface i x) = [(.iface i x)] := nrfl rfl
theorem u9e : PV.low N (.iface i x) = x.low N := by simp only [PV.low]
theorem u6i : isTup .niliface = false := nrfl rfl
theorem u56 : isCell .niliface = true := nrfl rfl
theorem u6g : isVal .niliface = true := nrfl rfl
theorem u6h : isPtr .niliface = false := nrfl rfl
theorem u6k : PV.cells .niliface = [.niliface] := nrfl rfl
theorem u7t : PV.low N .niliface = true := by simp only [PV.low]
theorem ue0 : isTup (.agg cs) = false := nrfl rfl
theorem ub3 : isCell (.agg cs) = false := nrfl rfl
theorem ue2 : isVal (.agg cs) = true := nrfl rfl
theorem udv : isPtr (.agg cs) = false := nrfl rfl
theorem udm : PV.cells (.agg cs) = cs := nrfl rfl
theorem ufa : PV.low N (.agg cs) = lowL N cs := by simp only [PV.low]
theorem ue8 : isTup (.tup cs) = true := nrfl rfl
theorem ube : isCell (.tup cs) = false := nrfl rfl
theorem udl : isVal (.tup cs) = false := nrfl rfl
theorem ucu : isPtr (.tup cs) = false := nrfl rfl
theorem ucw : PV.cells (.tup cs) = [(.tup cs)] := nrfl rfl
theorem ufs : PV.low N (.tup cs) = lowL N cs := by simp only [PV.low]
theorem ua5 : isTup .undef = false := nrfl rfl
theorem u82 : isCell .undef = false := nrfl rfl
theorem u9x : isVal .undef = false := nrfl rfl
theorem u8u : isPtr .undef = false := nrfl rfl
theorem u9m : PV.cells .undef = [.undef] := nrfl rfl
theorem uec : PV.low N .undef = true := by simp only [PV.low]
end
theorem u4u {n : Nat} : lowL n [] = true := by simp only [lowL]
theorem u44 {n : Nat} {v : PV} {r : List PV} : lowL n (v :: r) = (v.low n && lowL n r) := by simp only [lowL]
def bdR (H : Heap) : Option (List PV) → Option (Out PV)
  | some cs => some (.ok (.agg cs) H)
  | none => none
theorem uhe {cs : List PV} : bdR H (some cs) = some (.ok (.agg cs) H) := nrfl rfl
theorem run_bd {zero : List PV} {parts : List (Nat × Nat × PV)} : run (bd zero parts) H = bdR H (u39 parts zero) := by
  unfold run bd bdR
  cases u39 parts zero <;> rfl
theorem u93 {cs : List PV} : u39 [] cs = some cs := nrfl rfl
theorem u7p {off size : Nat} {v : PV} {r : List (Nat × Nat × PV)} {cs : List PV} : u39 ((off, size, v) :: r) cs = if v.cells.length = size ∧ off + size ≤ cs.length ∧ v.cells.all isCell = true then u39 r (fillAt off (v.cells.map stripC) cs) else none := by
  show (bif v.cells.length == size && (decide (off + size ≤ cs.length) && v.cells.all isCell) then u39 r (fillAt off (v.cells.map stripC) cs) else none) = _
  cases hb : v.cells.all isCell <;> by_cases h1 : v.cells.length = size <;> by_cases h2 : off + size ≤ cs.length <;> simp [h1, h2, hb, u6l (v.cells.length) size]
theorem udk {off : Nat} {vs cs : List PV} : fillAt off vs cs = cs.take off ++ vs ++ cs.drop (off + vs.length) := nrfl rfl
def bsR (own : Bool) (a : Option Nat) (vs : List PV) (H : Heap) : Option (Out PV) := if vs.all (u1i a) = true then some (.ok (.slice own false (a.getD 1) vs) H) else none
theorem run_bs {own : Bool} {a : Option Nat} {vs : List PV} : run (bs own a vs) H = bsR own a (vs.map stripC) H := by
  unfold run bs bsR
  cases ((vs.map stripC).all (u1i a)) <;> rfl
def noPanR : Option (Out PV) → Option (Out PV)
  | some (.ok v H) => some (.ok v H)
  | _ => none
theorem uab {m : M PV} : run (noPan m) H = noPanR (run m H) := by
  unfold run noPan noPanR
  cases m H with
  | none => rfl
  | some q => cases q <;> rfl
theorem uem {v : PV} {H : Heap} : noPanR (some (.ok v H)) = some (.ok v H) := nrfl rfl
theorem ubl {v : PV} {H : Heap} : noPanR (some (.pan v H)) = none := nrfl rfl
theorem u94 : noPanR none = none := nrfl rfl
theorem uao {c : Prop} [Decidable c] {r r' : Option (Out PV)} : noPanR (if c then r else r') = if c then noPanR r else noPanR r' := by split <;> rfl
noncomputable def chkR (r r' : Option (Out α)) (x : M β) (H : Heap) : Option (Out β) := run (chk (fun _ => r) (fun _ => r') x) H
@[congr] theorem uo7 {r r' s s' : Option (Out α)} {x : M β} (h : r = s) (h' : r' = s') : chkR r r' x H = chkR s s' x H := by rw [h, h']
theorem uk6 {m m' : M α} {x : M β} : run (chk m m' x) H = chkR (run m H) (run m' H) x H := nrfl rfl
theorem ufo {a : α} {K : Heap} {x : M β} : chkR (some (.ok a K)) (some (.ok a K)) x H = run x H := by
  simp [chkR, run, chk]
theorem ukr {i o : Nat} : tld (.ptr i o) = .ld i := nrfl rfl
theorem ulf {i o : Nat} : tst (.ptr i o) = .st i := nrfl rfl
theorem ugz {cs : List PV} : tld (.elem cs) = .no := nrfl rfl
theorem uhs {x : Touch} : clash .no x = false := nrfl rfl
theorem udw {y : Touch} : clash y .no = false := by cases y <;> rfl
theorem u8s {i j : Nat} : clash (.ld i) (.ld j) = false := nrfl rfl
theorem ua8 {i j : Nat} : clash (.ld j) (.st i) = (i == j) := nrfl rfl
theorem uad {i j : Nat} : clash (.st j) (.ld i) = (i == j) := nrfl rfl
theorem ua2 {i j : Nat} : clash (.st j) (.st i) = (i == j) := nrfl rfl
theorem u7y {i : Nat} : clash .any (.ld i) = false := nrfl rfl
theorem u7x {i : Nat} : clash (.ld i) .any = false := nrfl rfl
theorem u77 : clash .any .any = false := nrfl rfl
def defR (CD : Option PV → CallT) (f : FuncId) (args : List PV) (res : M PV) : Option (Out PV) → Option (Out PV)
  | none => none
  | some (.ok _ H) => bindR (run (CD none f args) H) (fun _ => res)
  | some (.pan v H) => bindR (run (CD (some v) f args) H) (fun r => match r with | .tup [] => res | _ => M.fail)
theorem uel {CD : Option PV → CallT} {f : FuncId} {u v args : List PV} {rest res : M PV} : run (deferM CD (.fn f u v) args rest res) H = defR CD f (u ++ args ++ v) res (run rest H) := by
  unfold run deferM defR
  dsimp only
  cases rest H with
  | none => rfl
  | some q => cases q <;> rfl
@[congr] theorem uo5 {CD : Option PV → CallT} {f : FuncId} {args : List PV} {res : M PV} {r r' : Option (Out PV)} (h : r = r') : defR CD f args res r = defR CD f args res r' := by rw [h]
theorem uef {CD : Option PV → CallT} {f : FuncId} {args : List PV} {res : M PV} : defR CD f args res none = none := nrfl rfl
theorem ull {CD : Option PV → CallT} {f : FuncId} {args : List PV} {res : M PV} {v : PV} : defR CD f args res (some (.ok v H)) = bindR (run (CD none f args) H) (fun _ => res) := nrfl rfl
theorem ugp {CD : Option PV → CallT} {f : FuncId} {args : List PV} {res : M PV} {v : PV} : defR CD f args res (some (.pan v H)) = bindR (run (CD (some v) f args) H) (fun r => match r with | .tup [] => res | _ => M.fail) := nrfl rfl
theorem uh5 {CD : Option PV → CallT} {f : FuncId} {args : List PV} {res : M PV} {c : Prop} [Decidable c] {r r' : Option (Out PV)} : defR CD f args res (if c then r else r') = if c then defR CD f args res r else defR CD f args res r' := by split <;> rfl
end Go.Proofs.YtiiepllnnjjmaaaDoor.Pi
namespace Go.Proofs.YtiiepllnnjjmaaaDoor.Pi
def byt (c : UInt8) : PV := .int .u8 c.toNat
abbrev bytes (b : List UInt8) : List PV := b.map byt
inductive Rs (α : Type) where
  | ok (v : α) (p : Nat)
  | err (p e : Nat)
end Go.Proofs.YtiiepllnnjjmaaaDoor.Pi
namespace Go.Proofs.YtiiepllnnjjmaaaDoor.Pi
def okS (h c : Nat) : Prop := c < 128 ∧ (c / 2 ^ (h - 1) = 0 ∨ c / 2 ^ (h - 1) = 2 ^ (8 - h) - 1)
instance (h c : Nat) : Decidable (okS h c) := by unfold okS; infer_instance
end Go.Proofs.YtiiepllnnjjmaaaDoor.Pi
namespace Go.Proofs.YtiiepllnnjjmaaaDoor.Pi
open Go.ChangeShapes Go.WideShapes
def imOf (w : World) (b o : Nat) : Option Value := w.cell? ⟨b, o, none⟩
theorem imOf_ok (w : World) : ∀ b o v, imOf w b o = some v → w.cell? ⟨b, o, none⟩ = some v := fun _ _ _ h => h
end Go.Proofs.YtiiepllnnjjmaaaDoor.Pi
namespace Go.Proofs.YtiiepllnnjjmaaaDoor.Pi
theorem goDown : type_of% (And.intro (And.intro (And.intro (And.intro (And.intro @run_bind @uhj) (And.intro @uax @uea)) (And.intro (And.intro @ucp
    @run_nb) (And.intro @nbR_ok @ujd))) (And.intro (And.intro (And.intro @u9s @uap) (And.intro @ua9 @ues)) (And.intro
    (And.intro @u7d @ueb) (And.intro @uga (And.intro @uh6 @uln))))) (And.intro (And.intro (And.intro (And.intro @ulq
    @ulp) (And.intro @run_pure @uje)) (And.intro (And.intro @uh7 @uab) (And.intro @uem @ubl))) (And.intro (And.intro
    (And.intro @u94 @uao) (And.intro @uk6 @ufo)) (And.intro (And.intro @uel @uef) (And.intro @ull (And.intro
    @ugp @uh5)))))) := (And.intro (And.intro (And.intro (And.intro (And.intro @run_bind @uhj) (And.intro @uax @uea)) (And.intro (And.intro @ucp
    @run_nb) (And.intro @nbR_ok @ujd))) (And.intro (And.intro (And.intro @u9s @uap) (And.intro @ua9 @ues)) (And.intro
    (And.intro @u7d @ueb) (And.intro @uga (And.intro @uh6 @uln))))) (And.intro (And.intro (And.intro (And.intro @ulq
    @ulp) (And.intro @run_pure @uje)) (And.intro (And.intro @uh7 @uab) (And.intro @uem @ubl))) (And.intro (And.intro
    (And.intro @u94 @uao) (And.intro @uk6 @ufo)) (And.intro (And.intro @uel @uef) (And.intro @ull (And.intro
    @ugp @uh5))))))
theorem goUp : type_of% (And.intro (And.intro (And.intro (And.intro (And.intro (And.intro (And.intro @ub0 (And.intro @uhi @run_al)) (And.intro (And.intro @run_bx
    @run_ld) (And.intro @run_st @uh8))) (And.intro (And.intro (And.intro @ug7 @ugi) (And.intro @uf7 @ue4)) (And.intro
    (And.intro @ldB_t @ldB_f) (And.intro @stB_is @uhg)))) (And.intro (And.intro (And.intro @uic (And.intro @u2q @u3p)) (And.intro
    (And.intro @u2i @uco) (And.intro @ugw @u9c))) (And.intro (And.intro (And.intro @u3h @set_set) (And.intro @u9k @cut0))
    (And.intro (And.intro @cut1 @cut2) (And.intro @cutA0 @cutA1))))) (And.intro (And.intro (And.intro (And.intro @cutA2 (And.intro @u2z @u0s))
    (And.intro (And.intro @w_i64 @w_u64) (And.intro @w_u8 @w_u32))) (And.intro (And.intro (And.intro @w_i32 @uj7) (And.intro @uk4 @uia))
    (And.intro (And.intro @ufk @run_fa) (And.intro @ujr @u3q)))) (And.intro (And.intro (And.intro @nc_ptr (And.intro @uks @nc_nil))
    (And.intro (And.intro @run_mi @run_pn) (And.intro @uj6 @ulc))) (And.intro (And.intro (And.intro @ul6 @ulm) (And.intro @uhf
    @uh0)) (And.intro (And.intro @uhy @ucv) (And.intro @ubj @ue9)))))) (And.intro (And.intro (And.intro (And.intro
    (And.intro @uei (And.intro @ucs @ucb)) (And.intro (And.intro @ubi @ua6) (And.intro @uaz @ubt)))
    (And.intro (And.intro (And.intro @ubm @ugy) (And.intro @udz @uas)) (And.intro (And.intro @uf6 @ue7) (And.intro
    @udt @uj4)))) (And.intro (And.intro (And.intro @uf4 (And.intro @ub9 @uct)) (And.intro (And.intro @udq
    @ud5) (And.intro @uk2 @ue3))) (And.intro (And.intro (And.intro @ubc @uds) (And.intro @uez @uf3))
    (And.intro (And.intro @u97 @ubn) (And.intro @u9v @ubk))))) (And.intro (And.intro (And.intro (And.intro @ubp
    (And.intro @ubf @ugs)) (And.intro (And.intro @u8p @u7s) (And.intro @uaj @u9i))) (And.intro (And.intro
    (And.intro @u9t @u5a) (And.intro @ui1 @uf5)) (And.intro (And.intro @ugr @uhl) (And.intro @uhd @low_fn))))
    (And.intro (And.intro (And.intro @uac (And.intro @u7w @uae)) (And.intro (And.intro @u9r @u9d) (And.intro
    @uf0 @u96))) (And.intro (And.intro (And.intro @u7u @u8y) (And.intro @u9g @u9o)) (And.intro
    (And.intro @u9e @u6i) (And.intro @u56 @u6g))))))) (And.intro (And.intro (And.intro (And.intro (And.intro
    (And.intro @u6h (And.intro @u6k @u7t)) (And.intro (And.intro @ue0 @ub3) (And.intro @ue2
    @udv))) (And.intro (And.intro (And.intro @udm @ufa) (And.intro @ue8 @ube)) (And.intro (And.intro @udl
    @ucu) (And.intro @ucw @ufs)))) (And.intro (And.intro (And.intro @ua5 (And.intro @u82 @u9x)) (And.intro
    (And.intro @u8u @u9m) (And.intro @uec @u4u))) (And.intro (And.intro (And.intro @u44 @uhe) (And.intro @run_bd
    @u93)) (And.intro (And.intro @u7p @udk) (And.intro @run_bs @ukr))))) (And.intro (And.intro (And.intro (And.intro
    @ulf (And.intro @ugz @uhs)) (And.intro (And.intro @udw @u8s) (And.intro @ua8 @uad))) (And.intro
    (And.intro (And.intro @ua2 @u7y) (And.intro @u7x @u77)) (And.intro (And.intro @ud6 @ub7)
    (And.intro @ude @u9u)))) (And.intro (And.intro (And.intro @udn (And.intro @uf1 @ub1)) (And.intro (And.intro
    @uek @u6j) (And.intro @u90 @ugb))) (And.intro (And.intro (And.intro @uai @udx) (And.intro @u34
    @uaf)) (And.intro (And.intro @ub5 @u80) (And.intro @uau @ubw)))))) (And.intro (And.intro (And.intro
    (And.intro (And.intro @uaw (And.intro @u5k @u7r)) (And.intro (And.intro @uex @bi_add) (And.intro @bi_sub
    @bi_mul))) (And.intro (And.intro (And.intro @bi_eql @bi_neq) (And.intro @bi_lss @bi_leq)) (And.intro (And.intro @bi_gtr @bi_geq) (And.intro
    @uk8 @ulu)))) (And.intro (And.intro (And.intro @ujo (And.intro @ul9 @un_not)) (And.intro (And.intro @ued @ujg) (And.intro
    @mx_int @mn_int))) (And.intro (And.intro (And.intro @cv_int @Bool.and_true) (And.intro @Bool.true_and @Bool.and_self)) (And.intro (And.intro
    @Bool.not_true @Bool.not_false) (And.intro @Bool.and_false @Bool.false_and))))) (And.intro (And.intro (And.intro (And.intro @Bool.or_true
    (And.intro @Bool.or_false @Bool.true_or)) (And.intro (And.intro @Bool.false_or @Bool.false_eq_true) (And.intro @decide_eq_true_eq @and_self)))
    (And.intro (And.intro (And.intro @and_true @true_and) (And.intro @not_true_eq_false @not_false_eq_true)) (And.intro (And.intro @Nat.zero_add
    @Nat.add_zero) (And.intro @Nat.le_refl @Nat.lt_add_one)))) (And.intro (And.intro (And.intro (And.intro @Nat.lt_irrefl @and_false) (And.intro
    @false_and @Bool.not_eq_true')) (And.intro (And.intro @Bool.not_eq_eq_eq_not @decide_eq_false_iff_not) (And.intro @Bool.and_eq_true
    @Bool.or_eq_true))) (And.intro (And.intro (And.intro @decide_true @decide_false) (And.intro @u8i @u2f)) (And.intro (And.intro @u8g
    @u2h) (And.intro @u6d @u68)))))))) := (And.intro (And.intro (And.intro (And.intro (And.intro (And.intro (And.intro @ub0 (And.intro @uhi @run_al)) (And.intro (And.intro @run_bx
    @run_ld) (And.intro @run_st @uh8))) (And.intro (And.intro (And.intro @ug7 @ugi) (And.intro @uf7 @ue4)) (And.intro
    (And.intro @ldB_t @ldB_f) (And.intro @stB_is @uhg)))) (And.intro (And.intro (And.intro @uic (And.intro @u2q @u3p)) (And.intro
    (And.intro @u2i @uco) (And.intro @ugw @u9c))) (And.intro (And.intro (And.intro @u3h @set_set) (And.intro @u9k @cut0))
    (And.intro (And.intro @cut1 @cut2) (And.intro @cutA0 @cutA1))))) (And.intro (And.intro (And.intro (And.intro @cutA2 (And.intro @u2z @u0s))
    (And.intro (And.intro @w_i64 @w_u64) (And.intro @w_u8 @w_u32))) (And.intro (And.intro (And.intro @w_i32 @uj7) (And.intro @uk4 @uia))
    (And.intro (And.intro @ufk @run_fa) (And.intro @ujr @u3q)))) (And.intro (And.intro (And.intro @nc_ptr (And.intro @uks @nc_nil))
    (And.intro (And.intro @run_mi @run_pn) (And.intro @uj6 @ulc))) (And.intro (And.intro (And.intro @ul6 @ulm) (And.intro @uhf
    @uh0)) (And.intro (And.intro @uhy @ucv) (And.intro @ubj @ue9)))))) (And.intro (And.intro (And.intro (And.intro
    (And.intro @uei (And.intro @ucs @ucb)) (And.intro (And.intro @ubi @ua6) (And.intro @uaz @ubt)))
    (And.intro (And.intro (And.intro @ubm @ugy) (And.intro @udz @uas)) (And.intro (And.intro @uf6 @ue7) (And.intro
    @udt @uj4)))) (And.intro (And.intro (And.intro @uf4 (And.intro @ub9 @uct)) (And.intro (And.intro @udq
    @ud5) (And.intro @uk2 @ue3))) (And.intro (And.intro (And.intro @ubc @uds) (And.intro @uez @uf3))
    (And.intro (And.intro @u97 @ubn) (And.intro @u9v @ubk))))) (And.intro (And.intro (And.intro (And.intro @ubp
    (And.intro @ubf @ugs)) (And.intro (And.intro @u8p @u7s) (And.intro @uaj @u9i))) (And.intro (And.intro
    (And.intro @u9t @u5a) (And.intro @ui1 @uf5)) (And.intro (And.intro @ugr @uhl) (And.intro @uhd @low_fn))))
    (And.intro (And.intro (And.intro @uac (And.intro @u7w @uae)) (And.intro (And.intro @u9r @u9d) (And.intro
    @uf0 @u96))) (And.intro (And.intro (And.intro @u7u @u8y) (And.intro @u9g @u9o)) (And.intro
    (And.intro @u9e @u6i) (And.intro @u56 @u6g))))))) (And.intro (And.intro (And.intro (And.intro (And.intro
    (And.intro @u6h (And.intro @u6k @u7t)) (And.intro (And.intro @ue0 @ub3) (And.intro @ue2
    @udv))) (And.intro (And.intro (And.intro @udm @ufa) (And.intro @ue8 @ube)) (And.intro (And.intro @udl
    @ucu) (And.intro @ucw @ufs)))) (And.intro (And.intro (And.intro @ua5 (And.intro @u82 @u9x)) (And.intro
    (And.intro @u8u @u9m) (And.intro @uec @u4u))) (And.intro (And.intro (And.intro @u44 @uhe) (And.intro @run_bd
    @u93)) (And.intro (And.intro @u7p @udk) (And.intro @run_bs @ukr))))) (And.intro (And.intro (And.intro (And.intro
    @ulf (And.intro @ugz @uhs)) (And.intro (And.intro @udw @u8s) (And.intro @ua8 @uad))) (And.intro
    (And.intro (And.intro @ua2 @u7y) (And.intro @u7x @u77)) (And.intro (And.intro @ud6 @ub7)
    (And.intro @ude @u9u)))) (And.intro (And.intro (And.intro @udn (And.intro @uf1 @ub1)) (And.intro (And.intro
    @uek @u6j) (And.intro @u90 @ugb))) (And.intro (And.intro (And.intro @uai @udx) (And.intro @u34
    @uaf)) (And.intro (And.intro @ub5 @u80) (And.intro @uau @ubw)))))) (And.intro (And.intro (And.intro
    (And.intro (And.intro @uaw (And.intro @u5k @u7r)) (And.intro (And.intro @uex @bi_add) (And.intro @bi_sub
    @bi_mul))) (And.intro (And.intro (And.intro @bi_eql @bi_neq) (And.intro @bi_lss @bi_leq)) (And.intro (And.intro @bi_gtr @bi_geq) (And.intro
    @uk8 @ulu)))) (And.intro (And.intro (And.intro @ujo (And.intro @ul9 @un_not)) (And.intro (And.intro @ued @ujg) (And.intro
    @mx_int @mn_int))) (And.intro (And.intro (And.intro @cv_int @Bool.and_true) (And.intro @Bool.true_and @Bool.and_self)) (And.intro (And.intro
    @Bool.not_true @Bool.not_false) (And.intro @Bool.and_false @Bool.false_and))))) (And.intro (And.intro (And.intro (And.intro @Bool.or_true
    (And.intro @Bool.or_false @Bool.true_or)) (And.intro (And.intro @Bool.false_or @Bool.false_eq_true) (And.intro @decide_eq_true_eq @and_self)))
    (And.intro (And.intro (And.intro @and_true @true_and) (And.intro @not_true_eq_false @not_false_eq_true)) (And.intro (And.intro @Nat.zero_add
    @Nat.add_zero) (And.intro @Nat.le_refl @Nat.lt_add_one)))) (And.intro (And.intro (And.intro (And.intro @Nat.lt_irrefl @and_false) (And.intro
    @false_and @Bool.not_eq_true')) (And.intro (And.intro @Bool.not_eq_eq_eq_not @decide_eq_false_iff_not) (And.intro @Bool.and_eq_true
    @Bool.or_eq_true))) (And.intro (And.intro (And.intro @decide_true @decide_false) (And.intro @u8i @u2f)) (And.intro (And.intro @u8g
    @u2h) (And.intro @u6d @u68))))))))
theorem cr : (∀ {α : Type} {a : α} {l : List α}, (a :: l).length = l.length + 1) ∧ (∀ {α : Type}, ([] : List α).length = 0) ∧ (∀ {α β : Type} {f : α → β} {a : α} {l : List α}, (a :: l).map f = f a :: l.map f) ∧ (∀ {α β : Type} {f : α → β}, [].map f = []) ∧ (∀ {α : Type} {a : α} {l : List α} {i : Nat}, (a :: l).take (i + 1) = a :: l.take i) ∧ (∀ {α : Type} {l : List α}, l.take 0 = []) ∧ (∀ {α : Type} {a : α} {l : List α} {i : Nat}, (a :: l).drop (i + 1) = l.drop i) ∧ (∀ {α : Type} {l : List α}, l.drop 0 = l) ∧ (∀ {α : Type} {i : Nat}, ([] : List α).drop i = []) ∧ (∀ {α : Type} {i : Nat}, ([] : List α).take i = []) ∧ (∀ {α : Type} {a : α} {l k : List α}, a :: l ++ k = a :: (l ++ k)) ∧ (∀ {α : Type} {l : List α}, [] ++ l = l) ∧ (∀ {α : Type} {l : List α}, l ++ [] = l) ∧ (∀ {α : Type} {a b : α} {l : List α}, (a :: l).set 0 b = b :: l) ∧ (∀ {α : Type} {a b : α} {l : List α} {i : Nat}, (a :: l).set (i + 1) b = a :: l.set i b) ∧ (∀ {α : Type} {f : α → Bool} {a : α} {l : List α}, (a :: l).all f = (f a && l.all f)) ∧ (∀ {α : Type} {f : α → Bool}, [].all f = true) ∧ (∀ {a b : Int}, a ≥ b ↔ b ≤ a) ∧ (∀ {a b : Nat}, a ≥ b ↔ b ≤ a) ∧ (∀ {a b : Int}, a > b ↔ b < a) ∧ (∀ {a b : Nat}, a > b ↔ b < a) ∧ (∀ {α : Type} [BEq α] [ReflBEq α] {a : α}, (a == a) = true) ∧ (∀ {α : Type} [BEq α] [LawfulBEq α] {a b : α}, (a == b) = true ↔ a = b) ∧ (∀ {α : Type} [BEq α] [LawfulBEq α] {a b : α}, (a != b) = true ↔ a ≠ b) ∧ (∀ {α : Type} {a b : α}, (a ≠ b) = ¬ a = b) ∧ (∀ {α : Type} {p : Prop} [Decidable p] {x y : α}, (if ¬ p then x else y) = if p then y else x) ∧ (∀ {α : Type} {p : Prop} [Decidable p] {x : α}, (if p then x else x) = x) ∧ (∀ {α : Type} {a b : α}, (some a).getD b = a) ∧ (∀ {α : Type} {b : α}, (none : Option α).getD b = b) :=
  ⟨List.length_cons, List.length_nil, List.map_cons, List.map_nil, List.take_succ_cons, List.take_zero, List.drop_succ_cons, List.drop_zero, List.drop_nil, List.take_nil, List.cons_append, (List.nil_append _), (List.append_nil _), List.set_cons_zero, List.set_cons_succ, List.all_cons, List.all_nil, Iff.rfl, Iff.rfl, Iff.rfl, Iff.rfl, (beq_self_eq_true _), beq_iff_eq, bne_iff_ne, (ne_eq _ _), (ite_not _ _ _), (ite_self _), Option.getD_some, Option.getD_none⟩
end Go.Proofs.YtiiepllnnjjmaaaDoor.Pi
namespace Go.Proofs.YtiiepllnnjjmaaaDoor.Pi
variable {α β σ : Type} {c : Nat} {H : Heap}
def St (H : Heap) (c : Nat) (bx : Box) (L : List Box) : Heap := hadd (hset H c bx) L
def killR (c : Nat) : Option (Out α) → Option (Out α)
  | some (.pan v H) => some (.pan v (hset H c .dead))
  | r => r
def runK (c : Nat) (m : M α) (H : Heap) : Option (Out α) := killR c (run m H)
def bindK (c : Nat) (r : Option (Out α)) (f : α → M β) : Option (Out β) :=
  match r with
  | none => none
  | some (.ok v H) => runK c (f v) H
  | some (.pan v H) => some (.pan v H)
inductive Res (σ α : Type) where
  | ok (v : α) (s : σ)
  | err (t : TypeId) (l : List Int)
  | no
def fltP (t : TypeId) (l : List Int) : PV := .iface t (.agg (l.map (PV.int .i64)))
theorem ul5 {t : TypeId} {l : List Int} : fltP t l = .iface t (.agg (l.map (PV.int .i64))) := nrfl rfl
theorem ucy {n : Nat} : ∀ l : List Int, lowL n (l.map (PV.int .i64)) = true
  | [] => u4u
  | a :: r => by rw [List.map_cons, u44, ucb, ucy r]; rfl
theorem ucl {t : TypeId} {l : List Int} {n : Nat} : (fltP t l).low n = true := by
  unfold fltP
  rw [u9e, ufa]
  exact ucy l
def Res.bind {σ τ α β : Type} (r : Res σ α) (g : α → σ → Res τ β) : Res τ β :=
  match r with
  | .ok v s => g v s
  | .err t l => .err t l
  | .no => .no
def elimK {σ α γ : Type} (c : Nat) (H : Heap) (L : List Box) (r : Res σ α) (g : α → σ → Option (Out γ)) : Option (Out γ) :=
  match r with
  | .ok v s => g v s
  | .err t l => some (.pan (fltP t l) (St H c .dead L))
  | .no => none
def outK (c : Nat) (H : Heap) (L : List Box) (bx : σ → Box) (enc : α → PV) (r : Res σ α) : Option (Out PV) := elimK c H L r fun v s => some (.ok (enc v) (St H c (bx s) L))
def outS (c : Nat) (H : Heap) (L : List Box) (bx : σ → Box) (enc : α → PV) (r : α × σ) : Option (Out PV) := some (.ok (enc r.1) (St H c (bx r.2) L))
@[congr] theorem uo0 {r r' : Option (Out α)} {f : α → M β} (h : r = r') : bindK c r f = bindK c r' f := by rw [h]
@[congr] theorem und {σ α γ : Type} {L L' : List Box} {r r' : Res σ α} {g g' : α → σ → Option (Out γ)} (h : r = r') (hL : L = L') (hg : ∀ v s, r' = .ok v s → g v s = g' v s) : elimK c H L r g = elimK c H L' r' g' := by
  subst h hL
  cases r with
  | ok v s => exact hg v s rfl
  | err t l => rfl
  | no => rfl
theorem ul1 {L : List Box} {bx : σ → Box} {enc : α → PV} {r : Res σ α} : outK c H L bx enc r = elimK c H L r fun v s => some (.ok (enc v) (St H c (bx s) L)) := nrfl rfl
theorem ukv {L : List Box} {bx : σ → Box} {enc : α → PV} {v : α} {s : σ} : outK c H L bx enc (.ok v s) = some (.ok (enc v) (St H c (bx s) L)) := nrfl rfl
theorem ugv {L : List Box} {bx : σ → Box} {enc : α → PV} {t : TypeId} {l : List Int} : outK c H L bx enc (Res.err t l : Res σ α) = some (.pan (fltP t l) (St H c .dead L)) := nrfl rfl
theorem ukw {L : List Box} {bx : σ → Box} {enc : α → PV} : outK c H L bx enc (Res.no : Res σ α) = none := nrfl rfl
theorem uhu {γ : Type} {L : List Box} {g : α → σ → Option (Out γ)} : elimK c H L (Res.no : Res σ α) g = none := nrfl rfl
theorem udj {τ : Type} {β : Type} {L : List Box} {bx : σ → Box} {enc : α → PV} {r : Res τ β} {g : β → τ → Res σ α} : outK c H L bx enc (r.bind g) = elimK c H L r fun v s => outK c H L bx enc (g v s) := by cases r <;> rfl
theorem ugn {L : List Box} {bx : σ → Box} {enc : α → PV} {p : Prop} [Decidable p] {r r' : Res σ α} : outK c H L bx enc (if p then r else r') = if p then outK c H L bx enc r else outK c H L bx enc r' := by split <;> rfl
theorem ugl {γ : Type} {L : List Box} {v : α} {s : σ} {g : α → σ → Option (Out γ)} : elimK c H L (.ok v s) g = g v s := nrfl rfl
theorem ueu {γ : Type} {L : List Box} {t : TypeId} {l : List Int} {g : α → σ → Option (Out γ)} : elimK c H L (Res.err t l : Res σ α) g = some (.pan (fltP t l) (St H c .dead L)) := nrfl rfl
theorem udf {γ : Type} {L : List Box} {p : Prop} [Decidable p] {r r' : Res σ α} {g : α → σ → Option (Out γ)} : elimK c H L (if p then r else r') g = if p then elimK c H L r g else elimK c H L r' g := by split <;> rfl
theorem ubb {γ τ β : Type} {L : List Box} {r : Res τ β} {f : β → τ → Res σ α} {g : α → σ → Option (Out γ)} : elimK c H L (r.bind f) g = elimK c H L r fun v s => elimK c H L (f v s) g := by cases r <;> rfl
theorem ugk {v : α} : killR c (some (.ok v H)) = some (.ok v H) := nrfl rfl
theorem ub2 : killR c (none : Option (Out α)) = none := nrfl rfl
theorem u8w {v : PV} : killR c (some (.pan v H) : Option (Out α)) = some (.pan v (hset H c .dead)) := nrfl rfl
theorem ud4 {p : Prop} [Decidable p] {r r' : Option (Out α)} : killR c (if p then r else r') = if p then killR c r else killR c r' := by split <;> rfl
theorem uda {m : M α} {f : α → M β} : runK c (M.bind m f) H = bindK c (runK c m H) f := by
  unfold runK
  rw [run_bind]
  cases run m H with
  | none => rfl
  | some q => cases q <;> rfl
theorem ui4 {f : α → M β} {v : α} : bindK c (some (.ok v H)) f = runK c (f v) H := nrfl rfl
theorem ubh {f : α → M β} : bindK c none f = none := nrfl rfl
theorem ud3 {f : α → M β} {v : PV} : bindK c (some (.pan v H)) f = some (.pan v H) := nrfl rfl
theorem uev {p : Prop} [Decidable p] {r r' : Option (Out α)} {f : α → M β} : bindK c (if p then r else r') f = if p then bindK c r f else bindK c r' f := by split <;> rfl
theorem uay {L : List Box} {r : Res σ α} {g : α → σ → Option (Out PV)} {f : PV → M β} : bindK c (elimK c H L r g) f = elimK c H L r fun v s => bindK c (g v s) f := by cases r <;> rfl
noncomputable def nbK (c : Nat) (H : Heap) (r : Option (Out α)) (f : α → M β) : Option (Out β) := killR c (nbR H r f)
@[congr] theorem uo8 {r r' : Option (Out α)} {f : α → M β} (h : r = r') : nbK c H r f = nbK c H r' f := by rw [h]
theorem ujj {m : M α} {f : α → M β} : runK c (nb m f) H = nbK c H (runK c m H) f := by
  unfold nbK runK nbR run nb killR
  dsimp only
  cases m H with
  | none => rfl
  | some q => cases q <;> rfl
theorem nbK_ok {f : α → M β} {v : α} : nbK c H (some (.ok v H)) f = runK c (f v) H := by
  unfold nbK
  rw [nbR_ok]
  rfl
theorem ugm {f : α → M β} : nbK c H none f = none := by
  unfold nbK nbR nb
  rfl
theorem ula {p : Prop} [Decidable p] {r r' : Option (Out α)} {f : α → M β} : nbK c H (if p then r else r') f = if p then nbK c H r f else nbK c H r' f := by split <;> rfl
theorem uii {m : M PV} (hc : c < List.length H) : runK c (trunc m) H = truncR H (runK c m H) := by
  unfold runK
  rw [u9s]
  cases run m H with
  | none => rfl
  | some q => cases q with
    | ok v K => rfl
    | pan v K =>
      show killR c (bif v.low H.length then some (Out.pan v (hcut K H.length)) else none) = (bif v.low H.length then some (Out.pan v (hcut (hset K c .dead) H.length)) else none)
      cases v.low H.length with
      | false => rfl
      | true =>
        simp only [cond_true, u8w, Option.some.injEq, Out.pan.injEq, true_and]
        unfold hset hcut
        rw [List.take_set]
theorem uar {p : Bool} {m : M α} : runK c (guardM p m) H = if p = true then runK c m H else none := by cases p <;> rfl
theorem ucq {v : PV} {m : M PV} : runK c (resT v m) H = if isTup v = true then none else runK c m H := by unfold resT; cases isTup v <;> rfl
theorem ud9 {p : Bool} {x y : M α} : runK c (condM (.bool p) x y) H = if p = true then runK c x H else runK c y H := by cases p <;> rfl
theorem uh3 {p : Bool} {m : M PV} : runK c (gd (.bool p) true m) H = if p = true then runK c m H else some (.ok (.tup []) H) := by cases p <;> rfl
theorem uhk {p : Bool} {m : M PV} : runK c (gd (.bool p) false m) H = if p = true then some (.ok (.tup []) H) else runK c m H := by cases p <;> rfl
theorem ui8 {b : Bool} {m : M PV} : runK c (gd (.tup []) b m) H = some (.ok (.tup []) H) := nrfl rfl
theorem udh {v : α} : runK c (M.pure v) H = some (.ok v H) := nrfl rfl
theorem uh1 {v : PV} : runK c (M.pan v : M α) H = some (.pan v (hset H c .dead)) := nrfl rfl
theorem uee : runK c (M.fail : M α) H = none := nrfl rfl
theorem ubq {m : M PV} : runK c (noPan m) H = noPanR (run m H) := by
  unfold runK
  rw [uab]
  cases run m H with
  | none => rfl
  | some q => cases q <;> rfl
noncomputable def chkK (c : Nat) (r r' : Option (Out α)) (x : M β) (H : Heap) : Option (Out β) := killR c (chkR r r' x H)
@[congr] theorem uo4 {r r' s s' : Option (Out α)} {x : M β} (h : r = s) (h' : r' = s') : chkK c r r' x H = chkK c s s' x H := by rw [h, h']
theorem uhw {m m' : M α} {x : M β} : runK c (chk m m' x) H = chkK c (run m H) (run m' H) x H := nrfl rfl
theorem ujx {a : α} {K : Heap} {x : M β} : chkK c (some (.ok a K)) (some (.ok a K)) x H = runK c x H := by
  unfold chkK
  rw [ufo]
  rfl
theorem uer {r : Option (Out α)} {x : M β} : chkK c none r x H = none := by
  unfold chkK chkR run chk
  rfl
theorem ui5 {p : Prop} [Decidable p] {r r' s : Option (Out α)} {x : M β} : chkK c (if p then r else r') s x H = if p then chkK c r s x H else chkK c r' s x H := by split <;> rfl
theorem udr {r : Option (Out α)} {x : M β} : chkR none r x H = none := by
  unfold chkR run chk
  rfl
theorem uh2 {p : Prop} [Decidable p] {r r' s : Option (Out α)} {x : M β} : chkR (if p then r else r') s x H = if p then chkR r s x H else chkR r' s x H := by split <;> rfl
section
variable {n : Nat} {id o : Nat} {x y v i : PV} {cs : List PV} {m : Option Nat} {mv b : Bool} {L : List Box}
theorem ujt : runK c (al cs) H = killR c (run (al cs) H) := nrfl rfl
theorem ukl : runK c (bx n v) H = killR c (run (bx n v) H) := nrfl rfl
theorem ulr : runK c (ld m mv v) H = killR c (run (ld m mv v) H) := nrfl rfl
theorem uj2 : runK c (st n mv x v) H = killR c (run (st n mv x v) H) := nrfl rfl
theorem uid : runK c (iaS n x i) H = killR c (run (iaS n x i) H) := nrfl rfl
theorem uhb {len : Nat} : runK c (ixA len n m x i) H = killR c (run (ixA len n m x i) H) := nrfl rfl
theorem udd : runK c (pick v x y) H = killR c (run (pick v x y) H) := nrfl rfl
theorem ukc {t : TypeId} : runK c (mi t v) H = killR c (run (mi t v) H) := nrfl rfl
theorem ulk {t : FuncId} {l l' : List PV} : runK c (mf t l l') H = killR c (run (mf t l l') H) := nrfl rfl
theorem uk9 {z : List PV} {ps : List (Nat × Nat × PV)} : runK c (bd z ps) H = killR c (run (bd z ps) H) := nrfl rfl
theorem ul8 {l : List PV} : runK c (bs b m l) H = killR c (run (bs b m l) H) := nrfl rfl
theorem ulv {k : Nat} : runK c (ap b n k x y) H = killR c (run (ap b n k x y) H) := nrfl rfl
theorem uju {k : Nat} : runK c (mk b n k x y) H = killR c (run (mk b n k x y) H) := nrfl rfl
theorem ugx : runK c (lnS x) H = killR c (run (lnS x) H) := nrfl rfl
theorem ugu : runK c (lnL x) H = killR c (run (lnL x) H) := nrfl rfl
theorem uge : runK c (ixS x i) H = killR c (run (ixS x i) H) := nrfl rfl
theorem uhm {lo hi : Option PV} : runK c (slS x lo hi) H = killR c (run (slS x lo hi) H) := nrfl rfl
theorem ugo {lo hi : Option PV} : runK c (slL n x lo hi) H = killR c (run (slL n x lo hi) H) := nrfl rfl
theorem uj1 {k : Cv} : runK c (cv k b x) H = killR c (run (cv k b x) H) := nrfl rfl
theorem ukd : runK c (ex n x) H = killR c (run (ex n x) H) := nrfl rfl
theorem ulg {op : BinOp} {ek : EqK} : runK c (bi op ek x y) H = killR c (run (bi op ek x y) H) := nrfl rfl
theorem len_St {x : Box} : List.length (St H c x L) = List.length H + List.length L := by unfold St; rw [u2z, u0s]
theorem get_St {x : Box} (hc : c < List.length H) : hget (St H c x L) c = some x := by unfold St; rw [u6d hc, u3h hc]
theorem ujv {x : Box} (k : Nat) : hget (St H c x L) (List.length H + k) = nth L k := u8i k
theorem ug6 {x : Box} : hget (St H c x L) (List.length H) = nth L 0 := u2f
theorem set_St {x y : Box} (hc : c < List.length H) : hset (St H c x L) c y = St H c y L := by unfold St; rw [u68 hc, set_set]
theorem uky {x y : Box} (k : Nat) : hset (St H c x L) (List.length H + k) y = St H c x (L.set k y) := u8g k
theorem ui7 {x y : Box} : hset (St H c x L) (List.length H) y = St H c x (L.set 0 y) := u2h
theorem add_St {x : Box} {K : List Box} : hadd (St H c x L) K = St H c x (L ++ K) := u9k
theorem cut_St {x : Box} : hcut (St H c x L) (List.length H) = St H c x [] := by
  unfold St
  rw [cutA1]
  exact (List.append_nil _).symm
theorem u9j {r : Res σ α} {bx : Box} {g : α → σ → Option (Out PV)} : truncR (St H c bx []) (elimK c H L r g) = elimK c H [] r fun v s => truncR (St H c bx []) (g v s) := by
  cases r with
  | ok v s => rfl
  | err t l =>
    show truncR (St H c bx []) (some (Out.pan (fltP t l) (St H c .dead L))) = some (Out.pan (fltP t l) (St H c .dead []))
    rw [u7d, if_pos ucl, len_St, List.length_nil, Nat.add_zero, cut_St]
  | no => rfl
theorem uak {m : M PV} {x : Box} (hc : c < List.length H) : runK c (trunc m) (St H c x L) = truncR (St H c x L) (runK c m (St H c x L)) := uii (by rw [len_St]; omega)
theorem ujc {bx : σ → Box} {enc : α → PV} {v : α} {s : σ} : outS c H L bx enc (v, s) = some (.ok (enc v) (St H c (bx s) L)) := nrfl rfl
theorem ujp {bx : σ → Box} {enc : α → PV} {r : α × σ} {f : PV → M β} : bindR (outS c H L bx enc r) f = run (f (enc r.1)) (St H c (bx r.2) L) := nrfl rfl
end
end Go.Proofs.YtiiepllnnjjmaaaDoor.Pi
namespace Go.Proofs.YtiiepllnnjjmaaaDoor.Pi
theorem kDown : type_of% (And.intro (And.intro (And.intro (And.intro (And.intro @ukv @ugv) (And.intro @ukw (And.intro @uhu @udj))) (And.intro
    (And.intro @ugn @ugl) (And.intro @ueu (And.intro @udf @ubb)))) (And.intro (And.intro (And.intro @ugk @ub2)
    (And.intro @u8w (And.intro @ud4 @uda))) (And.intro (And.intro @ui4 (And.intro @ubh @ud3)) (And.intro @uev
    (And.intro @uay @u9j))))) (And.intro (And.intro (And.intro (And.intro @ujj @nbK_ok) (And.intro @ugm (And.intro @ula
    @uak))) (And.intro (And.intro @uar (And.intro @ucq @ud9)) (And.intro @uh3 (And.intro @uhk @ui8))))
    (And.intro (And.intro (And.intro @udh @uh1) (And.intro @uee (And.intro @ubq @uhw))) (And.intro (And.intro @ujx
    (And.intro @uer @ui5)) (And.intro @udr (And.intro @uh2 @ujp)))))) := (And.intro (And.intro (And.intro (And.intro (And.intro @ukv @ugv) (And.intro @ukw (And.intro @uhu @udj))) (And.intro
    (And.intro @ugn @ugl) (And.intro @ueu (And.intro @udf @ubb)))) (And.intro (And.intro (And.intro @ugk @ub2)
    (And.intro @u8w (And.intro @ud4 @uda))) (And.intro (And.intro @ui4 (And.intro @ubh @ud3)) (And.intro @uev
    (And.intro @uay @u9j))))) (And.intro (And.intro (And.intro (And.intro @ujj @nbK_ok) (And.intro @ugm (And.intro @ula
    @uak))) (And.intro (And.intro @uar (And.intro @ucq @ud9)) (And.intro @uh3 (And.intro @uhk @ui8))))
    (And.intro (And.intro (And.intro @udh @uh1) (And.intro @uee (And.intro @ubq @uhw))) (And.intro (And.intro @ujx
    (And.intro @uer @ui5)) (And.intro @udr (And.intro @uh2 @ujp))))))
theorem kUp : type_of% (And.intro (And.intro (And.intro (And.intro (And.intro @ul1 @ujc) (And.intro @ul5 @ucl)) (And.intro (And.intro @ujt @ukl)
    (And.intro @ulr @uj2))) (And.intro (And.intro (And.intro @uid @uhb) (And.intro @udd @ukc)) (And.intro (And.intro
    @ulk @uk9) (And.intro @ul8 (And.intro @ulv @uju))))) (And.intro (And.intro (And.intro (And.intro @ugx @ugu)
    (And.intro @uge @uhm)) (And.intro (And.intro @ugo @uj1) (And.intro @ukd @ulg))) (And.intro (And.intro (And.intro @len_St
    @get_St) (And.intro @ujv @ug6)) (And.intro (And.intro @set_St @uky) (And.intro @ui7 (And.intro @add_St @cut_St)))))) := (And.intro (And.intro (And.intro (And.intro (And.intro @ul1 @ujc) (And.intro @ul5 @ucl)) (And.intro (And.intro @ujt @ukl)
    (And.intro @ulr @uj2))) (And.intro (And.intro (And.intro @uid @uhb) (And.intro @udd @ukc)) (And.intro (And.intro
    @ulk @uk9) (And.intro @ul8 (And.intro @ulv @uju))))) (And.intro (And.intro (And.intro (And.intro @ugx @ugu)
    (And.intro @uge @uhm)) (And.intro (And.intro @ugo @uj1) (And.intro @ukd @ulg))) (And.intro (And.intro (And.intro @len_St
    @get_St) (And.intro @ujv @ug6)) (And.intro (And.intro @set_St @uky) (And.intro @ui7 (And.intro @add_St @cut_St))))))
end Go.Proofs.YtiiepllnnjjmaaaDoor.Pi
namespace Go.Proofs.YtiiepllnnjjmaaaDoor.Pi
variable {α β : Type} {H : Heap}
theorem u3f {n o : Nat} : u09 (.ptr n o) = .al n := nrfl rfl
theorem u5v {n : Nat} : isAlT (.al n) = true := nrfl rfl
theorem u5s {n : Nat} : isAlT (.ld n) = false := nrfl rfl
theorem u5u {n : Nat} : isAlT (.st n) = false := nrfl rfl
theorem u4j : isAlT .any = false := nrfl rfl
theorem u62 : isAlT .no = false := nrfl rfl
theorem u3k {n i : Nat} : clash (.al n) (.ld i) = false := nrfl rfl
theorem u3l {n i : Nat} : clash (.al n) (.st i) = false := nrfl rfl
theorem u3e {n i : Nat} : clash (.al n) (.al i) = true := nrfl rfl
theorem u3d {n i : Nat} : clash (.ld i) (.al n) = decide (n ≤ i) := nrfl rfl
theorem u3g {n i : Nat} : clash (.st i) (.al n) = decide (n ≤ i) := nrfl rfl
noncomputable def chkAR (r2 r1 : Option (Out Env)) (x : M β) (H : Heap) : Option (Out β) := run (chkA (fun _ => r2) (fun _ => r1) x) H
@[congr] theorem unl {r r' s s' : Option (Out Env)} {x : M β} (h : r = s) (h' : r' = s') : chkAR r r' x H = chkAR s s' x H := by rw [h, h']
theorem u65 {m2 m1 : M Env} {x : M β} : run (chkA m2 m1 x) H = chkAR (run m2 H) (run m1 H) x H := nrfl rfl
theorem u66 {e1 e2 : Env} {H1 H2 : Heap} {x : M β} : chkAR (some (.ok e2 H2)) (some (.ok e1 H1)) x H = @ite _ (u6w H.length e1 H1 e2 H2) (Classical.propDecidable _) (run x H) none := by
  unfold chkAR run chkA
  rfl
def renL (n : Nat) : List PV → List PV → Prop
  | [], [] => True
  | p :: l, q :: m => renV n p q ∧ renL n l m
  | _, _ => False
theorem uht {n : Nat} : ∀ {l m : List PV}, renL n l m → l.length = m.length ∧ ∀ t, renV n (l.getD t .undef) (m.getD t .undef)
  | [], [], _ => ⟨rfl, fun t => .inl ⟨rfl, rfl⟩⟩
  | p :: l, q :: m, h => by
    obtain ⟨h1, h2⟩ := uht h.2
    refine ⟨by simp [h1], fun t => ?_⟩
    cases t with
    | zero => exact h.1
    | succ t => exact h2 t
  | [], q :: m, h => h.elim
  | p :: l, [], h => h.elim
theorem uif {n : Nat} {e1 e2 : Env} {H0 : Heap} {x1 x2 : List PV} (hn : H0.length = n) (hx : (x1 ++ x2).all (fun c => c.low n) = true) (hs : (x1 ++ x2).map stripC = x1 ++ x2) (he : renL n e1 e2) : u6w n e1 (H0 ++ [.cells x1, .cells x2]) e2 (H0 ++ [.cells x2, .cells x1]) := by
  obtain ⟨h1, h2⟩ := uht he
  refine ⟨H0, x1, x2, hn, rfl, rfl, fun c hc => ⟨List.all_eq_true.mp hx c hc, ?_⟩, h1, h2⟩
  obtain ⟨j, hj⟩ := List.getElem?_of_mem hc
  have := congrArg (fun l => l[j]?) hs
  simp only [List.getElem?_map, hj, Option.map_some, Option.some.injEq] at this
  exact this
theorem u4m {n : Nat} {p : PV} : renV n p p = (p.low n = true) := by
  unfold renV
  rw [eq_iff_iff]
  constructor
  · rintro (⟨_, h⟩ | ⟨o, h1, h2⟩ | ⟨o, h1, h2⟩)
    · exact h
    · rw [h1] at h2; injection h2 with h2; omega
    · rw [h1] at h2; injection h2 with h2; omega
  · exact fun h => .inl ⟨rfl, h⟩
theorem uni {n o : Nat} : renV n (.ptr n o) (.ptr (n + 1) o) = True := eq_true (.inr (.inl ⟨o, rfl, rfl⟩))
theorem ujk {n o : Nat} : renV n (.ptr (n + 1) o) (.ptr n o) = True := eq_true (.inr (.inr ⟨o, rfl, rfl⟩))
theorem u61 {n o : Nat} : renV (n + 2) (.ptr (n + 2) o) (.ptr (n + 3) o) = True := uni
theorem u42 {n o : Nat} : renV (n + 2) (.ptr (n + 3) o) (.ptr (n + 2) o) = True := ujk
theorem u5r {n : Nat} : renL n [] [] = True := rfl
theorem u4p {n : Nat} {p q : PV} {l m : List PV} : renL n (p :: l) (q :: m) = (renV n p q ∧ renL n l m) := rfl
theorem udp {n : Nat} : ∀ {l m : List PV}, l.length = m.length → (∀ t, renV n (l.getD t .undef) (m.getD t .undef)) → renL n l m
  | [], [], _, _ => True.intro
  | p :: l, q :: m, h, k => ⟨k 0, udp (by simpa using h) fun t => k (t + 1)⟩
  | [], q :: m, h, _ => by cases h
  | p :: l, [], h, _ => by cases h
theorem u67 {e1 e2 : Env} {b1 b2 : Box} {x1 x2 : List PV} : u6w (List.length H + 2) e1 (hadd H [b1, b2, .cells x1, .cells x2]) e2 (hadd H [b1, b2, .cells x2, .cells x1]) =
    (((x1 ++ x2).all (fun c => c.low (List.length H + 2)) = true ∧ (x1 ++ x2).map stripC = x1 ++ x2) ∧ renL (List.length H + 2) e1 e2) := by
  rw [eq_iff_iff]
  constructor
  · rintro ⟨H0, y1, y2, hn, h1, h2, hx, hl, hr⟩
    have h1 : (H ++ [b1, b2]) ++ [.cells x1, .cells x2] = H0 ++ [.cells y1, .cells y2] := by rw [← h1]; unfold hadd; simp
    obtain ⟨_, h3⟩ := List.append_inj h1 (by simp [hn])
    simp only [List.cons.injEq, Box.cells.injEq, and_true] at h3
    obtain ⟨rfl, rfl⟩ := h3
    refine ⟨⟨List.all_eq_true.mpr fun c hc => (hx c hc).1, ?_⟩, udp hl hr⟩
    have : ∀ l : List PV, (∀ c ∈ l, stripC c = c) → l.map stripC = l := fun l => by
      induction l with
      | nil => intro _; rfl
      | cons a l ih => intro h; rw [List.map_cons, h a List.mem_cons_self, ih fun c hc => h c (List.mem_cons_of_mem _ hc)]
    exact this _ fun c hc => (hx c hc).2
  · rintro ⟨⟨h1, h2⟩, h3⟩
    have := uif (H0 := H ++ [b1, b2]) (n := List.length H + 2) (x1 := x1) (x2 := x2) (e1 := e1) (e2 := e2) (by simp) h1 h2 h3
    unfold hadd
    simpa using this
theorem u7l {n k : Nat} : (n == n + (k + 1)) = false := by simp
theorem len_ne {n k j : Nat} : (n + k == n + j) = (k == j) := by rw [Bool.eq_iff_iff]; simp
end Go.Proofs.YtiiepllnnjjmaaaDoor.Pi
namespace Go.Proofs.YtiiepllnnjjmaaaDoor.Pi.Q
open Go Go.Proofs.YtiiepllnnjjmaaaDoor.Pi
noncomputable abbrev P : Program := Tryd.prog
noncomputable abbrev X : ExtT := fun _ => none
noncomputable abbrev C := callW P X
noncomputable abbrev CD := callDW P X
abbrev u1e : FuncId := 5
abbrev u2j : FuncId := 6
abbrev u47 : FuncId := 14
abbrev u21 : FuncId := 16
abbrev u3z : FuncId := 19
abbrev u20 : FuncId := 20
abbrev u4d : FuncId := 22
abbrev u1h : FuncId := 25
abbrev u2r : FuncId := 26
abbrev u4b : FuncId := 27
abbrev u2v : FuncId := 28
abbrev u1g : FuncId := 29
abbrev u38 : FuncId := 30
abbrev u5c : FuncId := 31
abbrev u01 : FuncId := 32
abbrev u2u : FuncId := 36
abbrev u2e : FuncId := 37
abbrev u1t : FuncId := 39
abbrev u0c : FuncId := 40
abbrev u05 : FuncId := 41
abbrev u1q : FuncId := 42
abbrev u1s : FuncId := 43
abbrev u2n : FuncId := 44
abbrev u0x : FuncId := 45
abbrev u1p : FuncId := 46
abbrev u54 : FuncId := 47
abbrev u46 : FuncId := 48
abbrev u02 : FuncId := 49
abbrev u0j : FuncId := 50
end Go.Proofs.YtiiepllnnjjmaaaDoor.Pi.Q
namespace Go.Proofs.YtiiepllnnjjmaaaDoor.Pi.Q
open Go Go.Proofs.YtiiepllnnjjmaaaDoor.Pi
noncomputable def u06 (v0 v1 v2 v6 v9 v15 v16 : PV) : M PV := atP P X u1e [1, 1, 1, 1, 1, 1, 1, 1, 1, 1, 0, 1, 0] (mkEnv 168 0 [(0, v0), (1, v1), (2, v2), (6, v6), (9, v9), (15, v15), (16, v16)])
noncomputable def u0b (v0 v1 v2 v6 v9 v15 v16 v17 v18 v19 : PV) : M PV := atP P X u1e [1, 1, 1, 1, 1, 1, 1, 1, 1, 1, 0, 1, 0, 0, 1, 0, 0, 1, 1, 1, 1, 0] (mkEnv 168 0 [(0, v0), (1, v1), (2, v2), (6, v6), (9, v9), (15, v15), (16, v16), (17, v17), (18, v18), (19, v19)])
theorem u16 (v0 v1 v2 v6 v9 v15 v16 : PV) : u06 v0 v1 v2 v6 v9 v15 v16 =
 M.bind (iaS 2 (strip v0) (strip v1)) fun t95_0 =>
 M.bind (fa 0 t95_0) fun t96_1 =>
 M.bind (ld none false t96_1) fun t97_2 =>
 M.bind (lnL t97_2) fun t98_3 =>
 M.bind (bi .lss .none (strip v16) t98_3) fun t99_4 =>
 condM t99_4
 (M.bind (iaS 2 (strip v0) (strip v1)) fun t104_5 =>
 M.bind (fa 0 t104_5) fun t105_6 =>
 M.bind (ld none false t105_6) fun t106_7 =>
 M.bind (iaS 6 t106_7 (strip v16)) fun t108_8 =>
 M.bind (ld (some 6) false t108_8) fun t109_9 =>
 M.bind (C u4d [(strip t109_9)]) fun t110_10 =>
 M.bind (fa 0 v15) fun t111_11 =>
 M.bind (ld none false t111_11) fun t112_12 =>
 M.bind (iaS 6 t112_12 (strip v16)) fun t114_13 =>
 M.bind (ld (some 6) false t114_13) fun t115_14 =>
 M.bind (C u4d [(strip t115_14)]) fun t116_15 =>
 M.bind (lnL (strip t110_10)) fun t118_16 =>
 M.bind (lnL (strip t116_15)) fun t120_17 =>
 M.bind (bi .neq .none t118_16 t120_17) fun t121_18 =>
 condM t121_18
 (M.pure (.bool false))
 (u0b v0 v1 v2 v6 v9 v15 v16 t110_10 t116_15 (.int .i64 0)))
 (M.bind (C u21 []) fun t167_19 =>
 resT t167_19 (M.pure t167_19)) :=
 (u13 P X _ _ _).trans (by kernel_rfl)
theorem u0n (v0 v1 v2 v6 v9 v15 v16 v17 v18 v19 : PV) : u0b v0 v1 v2 v6 v9 v15 v16 v17 v18 v19 =
 M.bind (lnL (strip v17)) fun t124_0 =>
 M.bind (bi .lss .none (strip v19) t124_0) fun t125_1 =>
 condM t125_1
 (nb (iaS 1 (strip v17) (strip v19)) fun t130_2 =>
 nb (ld none false t130_2) fun t131_3 =>
 nb (bi .lss .none t131_3 (strip v9)) fun t133_4 =>
 nb (gd (strip t133_4) true (M.pure (strip v18))) fun t135_5 =>
 nb (gd (strip t133_4) true (M.pure (strip v19))) fun t136_6 =>
 nb (gd (strip t133_4) true (iaS 1 t135_5 t136_6)) fun t137_7 =>
 nb (gd (strip t133_4) true (ld none false t137_7)) fun t138_8 =>
 nb (gd (strip t133_4) true (M.pure (strip v17))) fun t139_9 =>
 nb (gd (strip t133_4) true (M.pure (strip v19))) fun t140_10 =>
 nb (gd (strip t133_4) true (iaS 1 t139_9 t140_10)) fun t141_11 =>
 nb (gd (strip t133_4) true (ld none false t141_11)) fun t142_12 =>
 nb (gd (strip t133_4) true (bi .neq .none t138_8 t142_12)) fun t143_13 =>
 nb (pick (strip t133_4) t143_13 (.bool false)) fun t144_14 =>
 nb (gd (strip t144_14) false (M.pure (strip v17))) fun t146_15 =>
 nb (gd (strip t144_14) false (M.pure (strip v19))) fun t147_16 =>
 nb (gd (strip t144_14) false (iaS 1 t146_15 t147_16)) fun t148_17 =>
 nb (gd (strip t144_14) false (ld none false t148_17)) fun t149_18 =>
 nb (gd (strip t144_14) false (M.pure (strip v9))) fun t150_19 =>
 nb (gd (strip t144_14) false (bi .geq .none t149_18 t150_19)) fun t151_20 =>
 nb (gd (strip t144_14) false (M.pure (strip t151_20))) fun t152_21 =>
 nb (gd t152_21 true (M.pure (strip v18))) fun t153_22 =>
 nb (gd t152_21 true (M.pure (strip v19))) fun t154_23 =>
 nb (gd t152_21 true (iaS 1 t153_22 t154_23)) fun t155_24 =>
 nb (gd t152_21 true (ld none false t155_24)) fun t156_25 =>
 nb (gd t152_21 true (M.pure (strip v17))) fun t157_26 =>
 nb (gd t152_21 true (M.pure (strip v19))) fun t158_27 =>
 nb (gd t152_21 true (iaS 1 t157_26 t158_27)) fun t159_28 =>
 nb (gd t152_21 true (ld none false t159_28)) fun t160_29 =>
 nb (gd t152_21 true (M.pure (strip v2))) fun t161_30 =>
 nb (gd t152_21 true (cv (.int .i64) true t161_30)) fun t162_31 =>
 nb (gd t152_21 true (bi .add .none t160_29 t162_31)) fun t163_32 =>
 nb (gd t152_21 true (bi .neq .none t156_25 t163_32)) fun t164_33 =>
 nb (gd (strip t144_14) false (pick t152_21 t164_33 (.bool false))) fun t165_34 =>
 nb (pick (strip t144_14) (.bool true) t165_34) fun t166_35 =>
 condM t166_35
 (M.pure (.bool false))
 (M.bind (bi .add .none (strip v19) (.int .i64 1)) fun t127_36 =>
 u0b v0 v1 v2 v6 v9 v15 v16 v17 v18 t127_36))
 (M.bind (bi .add .none (strip v16) (.int .i64 1)) fun t101_37 =>
 u06 v0 v1 v2 v6 v9 v15 t101_37) :=
 (u13 P X _ _ _).trans (by kernel_rfl)
theorem u45 (a0 a1 a2 : PV) : C u1e [a0, a1, a2] =
 trunc (M.bind (C u1h [(strip (strip a0))]) fun t22_0 =>
 M.bind (ex 0 t22_0) fun t23_1 =>
 M.bind (ex 1 (tupDrop 0 t22_0)) fun t24_2 =>
 M.bind (bi .neq .none (strip t24_2) (.int .i64 0)) fun t26_3 =>
 M.bind (gd (strip t26_3) false (M.pure (strip a1))) fun t28_4 =>
 M.bind (gd (strip t26_3) false (bi .lss .none t28_4 (.int .i64 0))) fun t29_5 =>
 M.bind (pick (strip t26_3) (.bool true) t29_5) fun t30_6 =>
 M.bind (gd (strip t30_6) false (M.pure (strip a1))) fun t32_7 =>
 M.bind (gd (strip t30_6) false (M.pure (strip a0))) fun t33_8 =>
 M.bind (gd (strip t30_6) false (lnL t33_8)) fun t34_9 =>
 M.bind (gd (strip t30_6) false (bi .geq .none t32_7 t34_9)) fun t35_10 =>
 M.bind (pick (strip t30_6) (.bool true) t35_10) fun t36_11 =>
 condM t36_11
 (M.bind (C u21 []) fun t37_12 =>
 resT t37_12 (M.pure t37_12))
 (M.bind (C u2r [(strip (strip a0)), (strip (strip a1))]) fun t40_13 =>
 M.bind (C u4b [(strip (strip a0)), (strip (strip a1))]) fun t44_14 =>
 M.bind (ex 0 t44_14) fun t45_15 =>
 M.bind (ex 1 (tupDrop 0 t44_14)) fun t46_16 =>
 M.bind (al [(.slice false true 0 []), (.bool false)]) fun t10_17 =>
 M.bind (st 2 true t10_17 t45_15) fun _ =>
 M.bind (ld (some 2) false t10_17) fun t48_19 =>
 M.bind (C u2v [(strip t48_19), (strip (strip t40_13))]) fun t50_20 =>
 M.bind (ex 0 t50_20) fun t51_21 =>
 M.bind (ex 1 (tupDrop 0 t50_20)) fun t52_22 =>
 M.bind (al [(.slice false true 0 []), (.bool false)]) fun t12_23 =>
 M.bind (st 2 true t12_23 t51_21) fun _ =>
 M.bind (noPan (M.pure (strip t46_16))) fun t53_40 =>
 M.bind (noPan (bi .neq .none t53_40 (.int .i64 0))) fun t54_41 =>
 M.bind (noPan (M.pure (strip t54_41))) fun t55_42 =>
 M.bind (noPan (gd t55_42 false (M.pure (strip t52_22)))) fun t56_43 =>
 M.bind (noPan (gd t55_42 false (bi .neq .none t56_43 (.int .i64 0)))) fun t57_44 =>
 M.bind (noPan (pick t55_42 (.bool true) t57_44)) fun t58_45 =>
 M.bind (noPan (M.pure (strip t58_45))) fun t59_46 =>
 M.bind (noPan (gd t59_46 false (M.pure (strip a0)))) fun t61_47 =>
 M.bind (noPan (gd t59_46 false (M.pure (strip a1)))) fun t62_48 =>
 M.bind (noPan (gd t59_46 false (iaS 2 t61_47 t62_48))) fun t63_49 =>
 M.bind (noPan (gd t59_46 false (ld (some 2) false t12_23))) fun t60_50 =>
 M.bind (noPan (gd t59_46 false (ld (some 2) false t63_49))) fun t64_51 =>
 M.bind (noPan (gd t59_46 false (C u47 [(strip t60_50), (strip t64_51)]))) fun t65_52 =>
 M.bind (noPan (gd t59_46 false (un .not t65_52))) fun t66_53 =>
 M.bind (noPan (pick t59_46 (.bool true) t66_53)) fun t67_54 =>
 condM t67_54
 (M.pure (.bool false))
 (M.bind (cv (.int .i64) true (strip a2)) fun t70_55 =>
 M.bind (bi .add .none (strip t40_13) t70_55) fun t71_56 =>
 M.bind (ld (some 2) false t10_17) fun t73_57 =>
 M.bind (C u2v [(strip t73_57), (strip (strip t71_56))]) fun t75_58 =>
 M.bind (ex 0 t75_58) fun t76_59 =>
 M.bind (ex 1 (tupDrop 0 t75_58)) fun t77_60 =>
 M.bind (al [(.slice false true 0 []), (.bool false)]) fun t15_61 =>
 M.bind (st 2 true t15_61 t76_59) fun _ =>
 nb (bi .neq .none (strip t77_60) (.int .i64 0)) fun t79_63 =>
 nb (gd (strip t79_63) false (fa 0 t15_61)) fun t81_64 =>
 nb (gd (strip t79_63) false (ld none false t81_64)) fun t82_65 =>
 nb (gd (strip t79_63) false (lnL t82_65)) fun t83_66 =>
 nb (gd (strip t79_63) false (M.pure (strip a0))) fun t84_67 =>
 nb (gd (strip t79_63) false (M.pure (strip a1))) fun t85_68 =>
 nb (gd (strip t79_63) false (iaS 2 t84_67 t85_68)) fun t86_69 =>
 nb (gd (strip t79_63) false (fa 0 t86_69)) fun t87_70 =>
 nb (gd (strip t79_63) false (ld none false t87_70)) fun t88_71 =>
 nb (gd (strip t79_63) false (lnL t88_71)) fun t89_72 =>
 nb (gd (strip t79_63) false (bi .neq .none t83_66 t89_72)) fun t90_73 =>
 nb (pick (strip t79_63) (.bool true) t90_73) fun t91_74 =>
 condM t91_74
 (M.pure (.bool false))
 (u06 a0 a1 a2 (.bool false) t40_13 t15_61 (.int .i64 0))))) := by
 rw [C, u0o _ _ rfl]; kernel_rfl
theorem uce (a0 a1 : PV) : C u2j [a0, a1] =
 trunc (M.bind (bx 3 a0) fun t2_0 =>
 M.bind (bx 3 a1) fun t3_1 =>
 M.bind (fa 0 t2_0) fun t5_2 =>
 M.bind (ld none false t5_2) fun t6_3 =>
 M.bind (bi .neq .none t6_3 (.int .i64 5)) fun t7_4 =>
 M.bind (gd (strip t7_4) false (fa 0 t3_1)) fun t9_5 =>
 M.bind (gd (strip t7_4) false (ld none false t9_5)) fun t10_6 =>
 M.bind (gd (strip t7_4) false (bi .neq .none t10_6 (.int .i64 5))) fun t11_7 =>
 M.bind (pick (strip t7_4) (.bool true) t11_7) fun t12_8 =>
 condM t12_8
 (M.bind (fa 0 t2_0) fun t13_9 =>
 M.bind (ld none false t13_9) fun t14_10 =>
 M.bind (fa 0 t3_1) fun t15_11 =>
 M.bind (ld none false t15_11) fun t16_12 =>
 M.bind (bi .eql .none t14_10 t16_12) fun t17_13 =>
 resT t17_13 (M.pure t17_13))
 (M.bind (ld (some 3) false t2_0) fun t18_14 =>
 M.bind (ld (some 3) false t3_1) fun t19_15 =>
 M.bind (bi .eql (.struct [.int, .bool, .int]) t18_14 t19_15) fun t20_16 =>
 resT t20_16 (M.pure t20_16))) := by
 rw [C, u0o _ _ rfl]; kernel_rfl
theorem u87 (a0 a1 : PV) : C u47 [a0, a1] =
 trunc (M.bind (bx 2 a0) fun t2_0 =>
 M.bind (bx 2 a1) fun t3_1 =>
 M.bind (fa 1 t2_0) fun t5_2 =>
 M.bind (ld none false t5_2) fun t6_3 =>
 M.bind (fa 1 t3_1) fun t7_4 =>
 M.bind (ld none false t7_4) fun t8_5 =>
 M.bind (bi .eql .bool t6_3 t8_5) fun t9_6 =>
 M.bind (gd (strip t9_6) true (fa 0 t2_0)) fun t11_7 =>
 M.bind (gd (strip t9_6) true (ld none false t11_7)) fun t12_8 =>
 M.bind (gd (strip t9_6) true (fa 0 t3_1)) fun t13_9 =>
 M.bind (gd (strip t9_6) true (ld none false t13_9)) fun t14_10 =>
 M.bind (gd (strip t9_6) true (C u1g [(strip t12_8), (strip t14_10), (.fn u38 [] [])])) fun t15_11 =>
 M.bind (pick (strip t9_6) t15_11 (.bool false)) fun t16_12 =>
 resT t16_12 (M.pure t16_12)) := by
 rw [C, u0o _ _ rfl]; kernel_rfl
theorem u5h : C u21 [] =
 trunc (M.bind (bd [(.int .i64 0), (.bool false), (.int .i64 0)] [(0, 1, (.int .i64 1))]) fun t1_0 =>
 M.bind (C u5c [(strip t1_0)]) fun t2_1 =>
 M.bind (bi .eql .none t2_1 (.str ⟨#[105, 51, 50]⟩)) fun t3_2 =>
 resT t3_2 (M.pure t3_2)) := by
 rw [C, u0o _ _ rfl]; kernel_rfl
noncomputable def u2a (v2 v3 v6 v7 v8 : PV) : M PV := atP P X u3z [1, 1, 0, 1, 0] (mkEnv 19 0 [(2, v2), (3, v3), (6, v6), (7, v7), (8, v8)])
theorem u3c (v2 v3 v6 v7 v8 : PV) : u2a v2 v3 v6 v7 v8 =
 M.bind (bi .lss .none v8 v7) fun t9_0 =>
 condM t9_0
 (M.bind (iaS 2 v6 v8) fun t10_1 =>
 M.bind (ld (some 2) true t10_1) fun t11_2 =>
 M.bind (al [(.slice false true 0 []), (.bool false)]) fun t5_3 =>
 M.bind (st 2 true t5_3 t11_2) fun _ =>
 M.bind (fa 0 t5_3) fun t13_5 =>
 M.bind (ld none false t13_5) fun t14_6 =>
 M.bind (lnL t14_6) fun t15_7 =>
 M.bind (bi .add .none (strip v3) t15_7) fun t16_8 =>
 M.bind (bi .add .none v8 (.int .i64 1)) fun t17_9 =>
 u2a v2 t16_8 v6 v7 (strip t17_9))
 (resT v3 (M.pure v3)) :=
 (u13 P X _ _ _).trans (by kernel_rfl)
theorem uan (a0 : PV) : C u3z [a0] =
 trunc (M.bind (lnL (strip a0)) fun t7_0 =>
 u2a (.int .i64 0) (.int .i64 0) (strip a0) t7_0 (.int .i64 0)) := by
 rw [C, u0o _ _ rfl]; kernel_rfl
noncomputable def u1c (v0 v2 v3 v4 : PV) : M PV := atP P X u20 [1, 1, 0, 1, 0] (mkEnv 20 0 [(0, v0), (2, v2), (3, v3), (4, v4)])
theorem u2c (v0 v2 v3 v4 : PV) : u1c v0 v2 v3 v4 =
 M.bind (lnL (strip v0)) fun t7_0 =>
 M.bind (bi .lss .none (strip v4) t7_0) fun t8_1 =>
 condM t8_1
 (M.bind (iaS 2 (strip v0) (strip v4)) fun t14_2 =>
 M.bind (fa 0 t14_2) fun t15_3 =>
 M.bind (ld none false t15_3) fun t16_4 =>
 M.bind (lnL t16_4) fun t17_5 =>
 M.bind (bi .add .none (strip v3) t17_5) fun t18_6 =>
 M.bind (bi .add .none (strip v4) (.int .i64 1)) fun t10_7 =>
 u1c v0 v2 t18_6 t10_7)
 (resT v3 (M.pure v3)) :=
 (u13 P X _ _ _).trans (by kernel_rfl)
theorem u5b (a0 : PV) : C u20 [a0] =
 trunc (u1c a0 (.int .i64 0) (.int .i64 0) (.int .i64 0)) := by
 rw [C, u0o _ _ rfl]; kernel_rfl
theorem uc3 (a0 : PV) : C u4d [a0] =
 trunc (M.bind (bx 6 a0) fun t1_0 =>
 M.bind (al [(.slice false true 0 [])]) fun t3_1 =>
 M.bind (ld (some 6) false t1_0) fun t4_2 =>
 M.bind (mf u2u [] [t3_1]) fun t5_3 =>
 M.bind (C u01 [(strip t4_2), (strip t5_3)]) fun t6_4 =>
 M.bind (ld none true t3_1) fun t7_5 =>
 resT t7_5 (M.pure t7_5)) := by
 rw [C, u0o _ _ rfl]; kernel_rfl
noncomputable def u0q (v0 v2 v3 v4 v5 : PV) : M PV := atP P X u1h [1, 1, 0, 1, 0] (mkEnv 47 0 [(0, v0), (2, v2), (3, v3), (4, v4), (5, v5)])
noncomputable def u0i (v0 v2 v3 v4 v5 v6 v7 : PV) : M PV := atP P X u1h [1, 1, 0, 1, 0, 0, 1, 0, 0, 1, 0, 1, 0] (mkEnv 47 0 [(0, v0), (2, v2), (3, v3), (4, v4), (5, v5), (6, v6), (7, v7)])
theorem u27 (v0 v2 v3 v4 v5 : PV) : u0q v0 v2 v3 v4 v5 =
 M.bind (lnL (strip v0)) fun t10_0 =>
 M.bind (bi .lss .none (strip v5) t10_0) fun t11_1 =>
 condM t11_1
 (M.bind (iaS 2 (strip v0) (strip v5)) fun t17_2 =>
 M.bind (fa 0 t17_2) fun t18_3 =>
 M.bind (ld none false t18_3) fun t19_4 =>
 M.bind (lnL t19_4) fun t20_5 =>
 M.bind (bi .add .none (strip v4) t20_5) fun t21_6 =>
 u0i v0 v2 v3 v4 v5 t21_6 (.int .i64 0))
 (M.pure (.tup [(.int .i64 0), (.int .i64 0)])) :=
 (u13 P X _ _ _).trans (by kernel_rfl)
theorem u1k (v0 v2 v3 v4 v5 v6 v7 : PV) : u0i v0 v2 v3 v4 v5 v6 v7 =
 M.bind (iaS 2 (strip v0) (strip v5)) fun t25_0 =>
 M.bind (fa 0 t25_0) fun t26_1 =>
 M.bind (ld none false t26_1) fun t27_2 =>
 M.bind (lnL t27_2) fun t28_3 =>
 M.bind (bi .lss .none (strip v7) t28_3) fun t29_4 =>
 condM t29_4
 (M.bind (iaS 2 (strip v0) (strip v5)) fun t34_5 =>
 M.bind (fa 0 t34_5) fun t35_6 =>
 M.bind (ld none false t35_6) fun t36_7 =>
 M.bind (iaS 6 t36_7 (strip v7)) fun t38_8 =>
 M.bind (ld (some 6) false t38_8) fun t39_9 =>
 M.bind (C u1t [(strip t39_9), (strip (strip v6))]) fun t41_10 =>
 M.bind (un .not t41_10) fun t42_11 =>
 condM t42_11
 (M.bind (bi .add .none (strip v4) (strip v7)) fun t45_12 =>
 resT t45_12 (M.pure (.tup [t45_12, (.int .i64 50)])))
 (M.bind (bi .add .none (strip v7) (.int .i64 1)) fun t31_13 =>
 u0i v0 v2 v3 v4 v5 v6 t31_13))
 (M.bind (bi .add .none (strip v5) (.int .i64 1)) fun t13_14 =>
 u0q v0 v2 v3 v6 t13_14) :=
 (u13 P X _ _ _).trans (by kernel_rfl)
theorem u55 (a0 : PV) : C u1h [a0] =
 trunc (u0q a0 (.int .i64 0) (.int .i64 0) (.int .i64 0) (.int .i64 0)) := by
 rw [C, u0o _ _ rfl]; kernel_rfl
theorem u57 (a0 a1 : PV) : C u2r [a0, a1] =
 trunc (M.bind (slL 2 (strip a0) none (some (strip a1))) fun t7_0 =>
 M.bind (C u20 [(strip t7_0)]) fun t8_1 =>
 resT t8_1 (M.pure t8_1)) := by
 rw [C, u0o _ _ rfl]; kernel_rfl
end Go.Proofs.YtiiepllnnjjmaaaDoor.Pi.Q
namespace Go.Proofs.YtiiepllnnjjmaaaDoor.Pi.Q
open Go Go.Proofs.YtiiepllnnjjmaaaDoor.Pi
noncomputable def u0g (v2 v3 v4 v5 v6 v7 v8 v34 v35 v36 : PV) : M PV := atP P X u4b [1, 1, 1, 1, 1, 0, 1, 0] (mkEnv 53 0 [(2, v2), (3, v3), (4, v4), (5, v5), (6, v6), (7, v7), (8, v8), (34, v34), (35, v35), (36, v36)])
theorem u33 (v2 v3 v4 v5 v6 v7 v8 v34 v35 v36 : PV) : u0g v2 v3 v4 v5 v6 v7 v8 v34 v35 v36 =
 M.bind (bi .lss .none v36 v35) fun t37_0 =>
 condM t37_0
 (M.bind (iaS 6 v34 v36) fun t38_1 =>
 M.bind (ld (some 6) true t38_1) fun t39_2 =>
 M.bind (al [(.bool false), (.slice false true 0 []), (.int .i64 0), (.slice false true 0 []), (.slice false true 0 []), (.slice false true 0 [])]) fun t10_3 =>
 M.bind (st 6 true t10_3 t39_2) fun _ =>
 chk
 (M.bind (noPan (fa 0 v7)) fun t40_14 =>
 M.bind (noPan (ld none true t40_14)) fun t41_15 =>
 M.bind (noPan (mf u0c [] [v6, v8, v2, v3])) fun t43_16 =>
 M.bind (noPan (ld (some 6) false t10_3)) fun t42_17 =>
 M.bind (noPan (C u01 [(strip t42_17), (strip t43_16)])) fun t44_18 =>
 M.bind (noPan (bs true (some 6) [t44_18])) fun t45_19 =>
 M.bind (noPan (ap true 6 112 t41_15 t45_19)) fun t46_20 =>
 M.bind (noPan (fa 0 v7)) fun t47_21 =>
 M.bind (noPan (st 1 true t47_21 t46_20)) fun _ =>
 M.pure [PV.undef, PV.undef, v2, v3, v4, v5, v6, v7, v8, PV.undef, t10_3, PV.undef, PV.undef, PV.undef, PV.undef, PV.undef, PV.undef, PV.undef, PV.undef, PV.undef, PV.undef, PV.undef, PV.undef, PV.undef, PV.undef, PV.undef, PV.undef, PV.undef, PV.undef, PV.undef, PV.undef, PV.undef, PV.undef, PV.undef, v34, v35, v36, t37_0, t38_1, (strip t39_2), t40_14, (strip t41_15), t42_17, t43_16, t44_18, t45_19, (strip t46_20), t47_21, PV.undef, PV.undef, PV.undef, PV.undef, PV.undef])
 (M.bind (noPan (fa 0 v7)) fun t40_5 =>
 M.bind (noPan (ld none true t40_5)) fun t41_6 =>
 M.bind (noPan (ld (some 6) false t10_3)) fun t42_7 =>
 M.bind (noPan (mf u0c [] [v6, v8, v2, v3])) fun t43_8 =>
 M.bind (noPan (C u01 [(strip t42_7), (strip t43_8)])) fun t44_9 =>
 M.bind (noPan (bs true (some 6) [t44_9])) fun t45_10 =>
 M.bind (noPan (ap true 6 112 t41_6 t45_10)) fun t46_11 =>
 M.bind (noPan (fa 0 v7)) fun t47_12 =>
 M.bind (noPan (st 1 true t47_12 t46_11)) fun _ =>
 M.pure [PV.undef, PV.undef, v2, v3, v4, v5, v6, v7, v8, PV.undef, t10_3, PV.undef, PV.undef, PV.undef, PV.undef, PV.undef, PV.undef, PV.undef, PV.undef, PV.undef, PV.undef, PV.undef, PV.undef, PV.undef, PV.undef, PV.undef, PV.undef, PV.undef, PV.undef, PV.undef, PV.undef, PV.undef, PV.undef, PV.undef, v34, v35, v36, t37_0, t38_1, (strip t39_2), t40_5, (strip t41_6), t42_7, t43_8, t44_9, t45_10, (strip t46_11), t47_12, PV.undef, PV.undef, PV.undef, PV.undef, PV.undef]) <|
 chk
 (M.bind (noPan (fa 0 v7)) fun t40_23 =>
 M.bind (noPan (ld (some 6) false t10_3)) fun t42_24 =>
 M.bind (noPan (ld none true t40_23)) fun t41_25 =>
 M.bind (noPan (mf u0c [] [v6, v8, v2, v3])) fun t43_26 =>
 M.bind (noPan (C u01 [(strip t42_24), (strip t43_26)])) fun t44_27 =>
 M.bind (noPan (bs true (some 6) [t44_27])) fun t45_28 =>
 M.bind (noPan (ap true 6 112 t41_25 t45_28)) fun t46_29 =>
 M.bind (noPan (fa 0 v7)) fun t47_30 =>
 M.bind (noPan (st 1 true t47_30 t46_29)) fun _ =>
 M.pure [PV.undef, PV.undef, v2, v3, v4, v5, v6, v7, v8, PV.undef, t10_3, PV.undef, PV.undef, PV.undef, PV.undef, PV.undef, PV.undef, PV.undef, PV.undef, PV.undef, PV.undef, PV.undef, PV.undef, PV.undef, PV.undef, PV.undef, PV.undef, PV.undef, PV.undef, PV.undef, PV.undef, PV.undef, PV.undef, PV.undef, v34, v35, v36, t37_0, t38_1, (strip t39_2), t40_23, (strip t41_25), t42_24, t43_26, t44_27, t45_28, (strip t46_29), t47_30, PV.undef, PV.undef, PV.undef, PV.undef, PV.undef])
 (M.bind (noPan (fa 0 v7)) fun t40_5 =>
 M.bind (noPan (ld none true t40_5)) fun t41_6 =>
 M.bind (noPan (ld (some 6) false t10_3)) fun t42_7 =>
 M.bind (noPan (mf u0c [] [v6, v8, v2, v3])) fun t43_8 =>
 M.bind (noPan (C u01 [(strip t42_7), (strip t43_8)])) fun t44_9 =>
 M.bind (noPan (bs true (some 6) [t44_9])) fun t45_10 =>
 M.bind (noPan (ap true 6 112 t41_6 t45_10)) fun t46_11 =>
 M.bind (noPan (fa 0 v7)) fun t47_12 =>
 M.bind (noPan (st 1 true t47_12 t46_11)) fun _ =>
 M.pure [PV.undef, PV.undef, v2, v3, v4, v5, v6, v7, v8, PV.undef, t10_3, PV.undef, PV.undef, PV.undef, PV.undef, PV.undef, PV.undef, PV.undef, PV.undef, PV.undef, PV.undef, PV.undef, PV.undef, PV.undef, PV.undef, PV.undef, PV.undef, PV.undef, PV.undef, PV.undef, PV.undef, PV.undef, PV.undef, PV.undef, v34, v35, v36, t37_0, t38_1, (strip t39_2), t40_5, (strip t41_6), t42_7, t43_8, t44_9, t45_10, (strip t46_11), t47_12, PV.undef, PV.undef, PV.undef, PV.undef, PV.undef]) <|
 chk
 (M.bind (noPan (fa 0 v7)) fun t40_32 =>
 M.bind (noPan (ld (some 6) false t10_3)) fun t42_33 =>
 M.bind (noPan (mf u0c [] [v6, v8, v2, v3])) fun t43_34 =>
 M.bind (noPan (ld none true t40_32)) fun t41_35 =>
 M.bind (noPan (C u01 [(strip t42_33), (strip t43_34)])) fun t44_36 =>
 M.bind (noPan (bs true (some 6) [t44_36])) fun t45_37 =>
 M.bind (noPan (ap true 6 112 t41_35 t45_37)) fun t46_38 =>
 M.bind (noPan (fa 0 v7)) fun t47_39 =>
 M.bind (noPan (st 1 true t47_39 t46_38)) fun _ =>
 M.pure [PV.undef, PV.undef, v2, v3, v4, v5, v6, v7, v8, PV.undef, t10_3, PV.undef, PV.undef, PV.undef, PV.undef, PV.undef, PV.undef, PV.undef, PV.undef, PV.undef, PV.undef, PV.undef, PV.undef, PV.undef, PV.undef, PV.undef, PV.undef, PV.undef, PV.undef, PV.undef, PV.undef, PV.undef, PV.undef, PV.undef, v34, v35, v36, t37_0, t38_1, (strip t39_2), t40_32, (strip t41_35), t42_33, t43_34, t44_36, t45_37, (strip t46_38), t47_39, PV.undef, PV.undef, PV.undef, PV.undef, PV.undef])
 (M.bind (noPan (fa 0 v7)) fun t40_5 =>
 M.bind (noPan (ld none true t40_5)) fun t41_6 =>
 M.bind (noPan (ld (some 6) false t10_3)) fun t42_7 =>
 M.bind (noPan (mf u0c [] [v6, v8, v2, v3])) fun t43_8 =>
 M.bind (noPan (C u01 [(strip t42_7), (strip t43_8)])) fun t44_9 =>
 M.bind (noPan (bs true (some 6) [t44_9])) fun t45_10 =>
 M.bind (noPan (ap true 6 112 t41_6 t45_10)) fun t46_11 =>
 M.bind (noPan (fa 0 v7)) fun t47_12 =>
 M.bind (noPan (st 1 true t47_12 t46_11)) fun _ =>
 M.pure [PV.undef, PV.undef, v2, v3, v4, v5, v6, v7, v8, PV.undef, t10_3, PV.undef, PV.undef, PV.undef, PV.undef, PV.undef, PV.undef, PV.undef, PV.undef, PV.undef, PV.undef, PV.undef, PV.undef, PV.undef, PV.undef, PV.undef, PV.undef, PV.undef, PV.undef, PV.undef, PV.undef, PV.undef, PV.undef, PV.undef, v34, v35, v36, t37_0, t38_1, (strip t39_2), t40_5, (strip t41_6), t42_7, t43_8, t44_9, t45_10, (strip t46_11), t47_12, PV.undef, PV.undef, PV.undef, PV.undef, PV.undef]) <|
 chk
 (M.bind (noPan (fa 0 v7)) fun t40_41 =>
 M.bind (noPan (ld (some 6) false t10_3)) fun t42_42 =>
 M.bind (noPan (mf u0c [] [v6, v8, v2, v3])) fun t43_43 =>
 M.bind (noPan (C u01 [(strip t42_42), (strip t43_43)])) fun t44_44 =>
 M.bind (noPan (bs true (some 6) [t44_44])) fun t45_45 =>
 M.bind (noPan (ld none true t40_41)) fun t41_46 =>
 M.bind (noPan (ap true 6 112 t41_46 t45_45)) fun t46_47 =>
 M.bind (noPan (fa 0 v7)) fun t47_48 =>
 M.bind (noPan (st 1 true t47_48 t46_47)) fun _ =>
 M.pure [PV.undef, PV.undef, v2, v3, v4, v5, v6, v7, v8, PV.undef, t10_3, PV.undef, PV.undef, PV.undef, PV.undef, PV.undef, PV.undef, PV.undef, PV.undef, PV.undef, PV.undef, PV.undef, PV.undef, PV.undef, PV.undef, PV.undef, PV.undef, PV.undef, PV.undef, PV.undef, PV.undef, PV.undef, PV.undef, PV.undef, v34, v35, v36, t37_0, t38_1, (strip t39_2), t40_41, (strip t41_46), t42_42, t43_43, t44_44, t45_45, (strip t46_47), t47_48, PV.undef, PV.undef, PV.undef, PV.undef, PV.undef])
 (M.bind (noPan (fa 0 v7)) fun t40_5 =>
 M.bind (noPan (ld none true t40_5)) fun t41_6 =>
 M.bind (noPan (ld (some 6) false t10_3)) fun t42_7 =>
 M.bind (noPan (mf u0c [] [v6, v8, v2, v3])) fun t43_8 =>
 M.bind (noPan (C u01 [(strip t42_7), (strip t43_8)])) fun t44_9 =>
 M.bind (noPan (bs true (some 6) [t44_9])) fun t45_10 =>
 M.bind (noPan (ap true 6 112 t41_6 t45_10)) fun t46_11 =>
 M.bind (noPan (fa 0 v7)) fun t47_12 =>
 M.bind (noPan (st 1 true t47_12 t46_11)) fun _ =>
 M.pure [PV.undef, PV.undef, v2, v3, v4, v5, v6, v7, v8, PV.undef, t10_3, PV.undef, PV.undef, PV.undef, PV.undef, PV.undef, PV.undef, PV.undef, PV.undef, PV.undef, PV.undef, PV.undef, PV.undef, PV.undef, PV.undef, PV.undef, PV.undef, PV.undef, PV.undef, PV.undef, PV.undef, PV.undef, PV.undef, PV.undef, v34, v35, v36, t37_0, t38_1, (strip t39_2), t40_5, (strip t41_6), t42_7, t43_8, t44_9, t45_10, (strip t46_11), t47_12, PV.undef, PV.undef, PV.undef, PV.undef, PV.undef]) <|
 chk
 (M.bind (noPan (fa 0 v7)) fun t40_50 =>
 M.bind (noPan (mf u0c [] [v6, v8, v2, v3])) fun t43_51 =>
 M.bind (noPan (ld none true t40_50)) fun t41_52 =>
 M.bind (noPan (ld (some 6) false t10_3)) fun t42_53 =>
 M.bind (noPan (C u01 [(strip t42_53), (strip t43_51)])) fun t44_54 =>
 M.bind (noPan (bs true (some 6) [t44_54])) fun t45_55 =>
 M.bind (noPan (ap true 6 112 t41_52 t45_55)) fun t46_56 =>
 M.bind (noPan (fa 0 v7)) fun t47_57 =>
 M.bind (noPan (st 1 true t47_57 t46_56)) fun _ =>
 M.pure [PV.undef, PV.undef, v2, v3, v4, v5, v6, v7, v8, PV.undef, t10_3, PV.undef, PV.undef, PV.undef, PV.undef, PV.undef, PV.undef, PV.undef, PV.undef, PV.undef, PV.undef, PV.undef, PV.undef, PV.undef, PV.undef, PV.undef, PV.undef, PV.undef, PV.undef, PV.undef, PV.undef, PV.undef, PV.undef, PV.undef, v34, v35, v36, t37_0, t38_1, (strip t39_2), t40_50, (strip t41_52), t42_53, t43_51, t44_54, t45_55, (strip t46_56), t47_57, PV.undef, PV.undef, PV.undef, PV.undef, PV.undef])
 (M.bind (noPan (fa 0 v7)) fun t40_5 =>
 M.bind (noPan (ld none true t40_5)) fun t41_6 =>
 M.bind (noPan (ld (some 6) false t10_3)) fun t42_7 =>
 M.bind (noPan (mf u0c [] [v6, v8, v2, v3])) fun t43_8 =>
 M.bind (noPan (C u01 [(strip t42_7), (strip t43_8)])) fun t44_9 =>
 M.bind (noPan (bs true (some 6) [t44_9])) fun t45_10 =>
 M.bind (noPan (ap true 6 112 t41_6 t45_10)) fun t46_11 =>
 M.bind (noPan (fa 0 v7)) fun t47_12 =>
 M.bind (noPan (st 1 true t47_12 t46_11)) fun _ =>
 M.pure [PV.undef, PV.undef, v2, v3, v4, v5, v6, v7, v8, PV.undef, t10_3, PV.undef, PV.undef, PV.undef, PV.undef, PV.undef, PV.undef, PV.undef, PV.undef, PV.undef, PV.undef, PV.undef, PV.undef, PV.undef, PV.undef, PV.undef, PV.undef, PV.undef, PV.undef, PV.undef, PV.undef, PV.undef, PV.undef, PV.undef, v34, v35, v36, t37_0, t38_1, (strip t39_2), t40_5, (strip t41_6), t42_7, t43_8, t44_9, t45_10, (strip t46_11), t47_12, PV.undef, PV.undef, PV.undef, PV.undef, PV.undef]) <|
 chk
 (M.bind (noPan (fa 0 v7)) fun t40_59 =>
 M.bind (noPan (mf u0c [] [v6, v8, v2, v3])) fun t43_60 =>
 M.bind (noPan (ld (some 6) false t10_3)) fun t42_61 =>
 M.bind (noPan (ld none true t40_59)) fun t41_62 =>
 M.bind (noPan (C u01 [(strip t42_61), (strip t43_60)])) fun t44_63 =>
 M.bind (noPan (bs true (some 6) [t44_63])) fun t45_64 =>
 M.bind (noPan (ap true 6 112 t41_62 t45_64)) fun t46_65 =>
 M.bind (noPan (fa 0 v7)) fun t47_66 =>
 M.bind (noPan (st 1 true t47_66 t46_65)) fun _ =>
 M.pure [PV.undef, PV.undef, v2, v3, v4, v5, v6, v7, v8, PV.undef, t10_3, PV.undef, PV.undef, PV.undef, PV.undef, PV.undef, PV.undef, PV.undef, PV.undef, PV.undef, PV.undef, PV.undef, PV.undef, PV.undef, PV.undef, PV.undef, PV.undef, PV.undef, PV.undef, PV.undef, PV.undef, PV.undef, PV.undef, PV.undef, v34, v35, v36, t37_0, t38_1, (strip t39_2), t40_59, (strip t41_62), t42_61, t43_60, t44_63, t45_64, (strip t46_65), t47_66, PV.undef, PV.undef, PV.undef, PV.undef, PV.undef])
 (M.bind (noPan (fa 0 v7)) fun t40_5 =>
 M.bind (noPan (ld none true t40_5)) fun t41_6 =>
 M.bind (noPan (ld (some 6) false t10_3)) fun t42_7 =>
 M.bind (noPan (mf u0c [] [v6, v8, v2, v3])) fun t43_8 =>
 M.bind (noPan (C u01 [(strip t42_7), (strip t43_8)])) fun t44_9 =>
 M.bind (noPan (bs true (some 6) [t44_9])) fun t45_10 =>
 M.bind (noPan (ap true 6 112 t41_6 t45_10)) fun t46_11 =>
 M.bind (noPan (fa 0 v7)) fun t47_12 =>
 M.bind (noPan (st 1 true t47_12 t46_11)) fun _ =>
 M.pure [PV.undef, PV.undef, v2, v3, v4, v5, v6, v7, v8, PV.undef, t10_3, PV.undef, PV.undef, PV.undef, PV.undef, PV.undef, PV.undef, PV.undef, PV.undef, PV.undef, PV.undef, PV.undef, PV.undef, PV.undef, PV.undef, PV.undef, PV.undef, PV.undef, PV.undef, PV.undef, PV.undef, PV.undef, PV.undef, PV.undef, v34, v35, v36, t37_0, t38_1, (strip t39_2), t40_5, (strip t41_6), t42_7, t43_8, t44_9, t45_10, (strip t46_11), t47_12, PV.undef, PV.undef, PV.undef, PV.undef, PV.undef]) <|
 chk
 (M.bind (noPan (fa 0 v7)) fun t40_68 =>
 M.bind (noPan (mf u0c [] [v6, v8, v2, v3])) fun t43_69 =>
 M.bind (noPan (ld (some 6) false t10_3)) fun t42_70 =>
 M.bind (noPan (C u01 [(strip t42_70), (strip t43_69)])) fun t44_71 =>
 M.bind (noPan (bs true (some 6) [t44_71])) fun t45_72 =>
 M.bind (noPan (ld none true t40_68)) fun t41_73 =>
 M.bind (noPan (ap true 6 112 t41_73 t45_72)) fun t46_74 =>
 M.bind (noPan (fa 0 v7)) fun t47_75 =>
 M.bind (noPan (st 1 true t47_75 t46_74)) fun _ =>
 M.pure [PV.undef, PV.undef, v2, v3, v4, v5, v6, v7, v8, PV.undef, t10_3, PV.undef, PV.undef, PV.undef, PV.undef, PV.undef, PV.undef, PV.undef, PV.undef, PV.undef, PV.undef, PV.undef, PV.undef, PV.undef, PV.undef, PV.undef, PV.undef, PV.undef, PV.undef, PV.undef, PV.undef, PV.undef, PV.undef, PV.undef, v34, v35, v36, t37_0, t38_1, (strip t39_2), t40_68, (strip t41_73), t42_70, t43_69, t44_71, t45_72, (strip t46_74), t47_75, PV.undef, PV.undef, PV.undef, PV.undef, PV.undef])
 (M.bind (noPan (fa 0 v7)) fun t40_5 =>
 M.bind (noPan (ld none true t40_5)) fun t41_6 =>
 M.bind (noPan (ld (some 6) false t10_3)) fun t42_7 =>
 M.bind (noPan (mf u0c [] [v6, v8, v2, v3])) fun t43_8 =>
 M.bind (noPan (C u01 [(strip t42_7), (strip t43_8)])) fun t44_9 =>
 M.bind (noPan (bs true (some 6) [t44_9])) fun t45_10 =>
 M.bind (noPan (ap true 6 112 t41_6 t45_10)) fun t46_11 =>
 M.bind (noPan (fa 0 v7)) fun t47_12 =>
 M.bind (noPan (st 1 true t47_12 t46_11)) fun _ =>
 M.pure [PV.undef, PV.undef, v2, v3, v4, v5, v6, v7, v8, PV.undef, t10_3, PV.undef, PV.undef, PV.undef, PV.undef, PV.undef, PV.undef, PV.undef, PV.undef, PV.undef, PV.undef, PV.undef, PV.undef, PV.undef, PV.undef, PV.undef, PV.undef, PV.undef, PV.undef, PV.undef, PV.undef, PV.undef, PV.undef, PV.undef, v34, v35, v36, t37_0, t38_1, (strip t39_2), t40_5, (strip t41_6), t42_7, t43_8, t44_9, t45_10, (strip t46_11), t47_12, PV.undef, PV.undef, PV.undef, PV.undef, PV.undef]) <|
 M.bind (noPan (fa 0 v7)) fun t40_77 =>
 M.bind (noPan (ld none true t40_77)) fun t41_78 =>
 M.bind (noPan (ld (some 6) false t10_3)) fun t42_79 =>
 M.bind (noPan (mf u0c [] [v6, v8, v2, v3])) fun t43_80 =>
 M.bind (noPan (C u01 [(strip t42_79), (strip t43_80)])) fun t44_81 =>
 M.bind (noPan (bs true (some 6) [t44_81])) fun t45_82 =>
 M.bind (noPan (ap true 6 112 t41_78 t45_82)) fun t46_83 =>
 M.bind (noPan (fa 0 v7)) fun t47_84 =>
 M.bind (noPan (st 1 true t47_84 t46_83)) fun _ =>
 M.bind (bi .add .none v36 (.int .i64 1)) fun t48_86 =>
 u0g v2 v3 v4 v5 v6 v7 v8 v34 v35 (strip t48_86))
 (M.bind (ld none false v8) fun t49_87 =>
 M.bind (un .not t49_87) fun t50_88 =>
 condM t50_88
 (M.bind (bd [(.slice false true 0 []), (.bool false)] []) fun t51_89 =>
 M.bind (st 2 true v4 t51_89) fun _ =>
 M.bind (ld (some 2) true v4) fun t0_91 => guardM (!isTup t0_91) (M.pure (.tup [t0_91, (.int .i64 50)])))
 (M.bind (ld (some 2) true v7) fun t52_92 =>
 M.bind (st 2 true v4 t52_92) fun _ =>
 M.bind (ld (some 2) true v4) fun t0_94 => guardM (!isTup t0_94) (M.pure (.tup [t0_94, (.int .i64 0)])))) :=
 (u13 P X _ _ _).trans (by kernel_rfl)
theorem uc0 (a0 a1 : PV) : C u4b [a0, a1] =
 trunc (M.bind (bx 1 a0) fun t2_0 =>
 M.bind (bx 1 a1) fun t3_1 =>
 M.bind (al [(.slice false true 0 []), (.bool false)]) fun t4_2 =>
 M.bind (ld none false t3_1) fun t11_3 =>
 M.bind (bi .lss .none t11_3 (.int .i64 0)) fun t12_4 =>
 M.bind (gd (strip t12_4) false (ld none false t3_1)) fun t14_5 =>
 M.bind (gd (strip t12_4) false (ld none false t2_0)) fun t15_6 =>
 M.bind (gd (strip t12_4) false (lnL t15_6)) fun t16_7 =>
 M.bind (gd (strip t12_4) false (bi .geq .none t14_5 t16_7)) fun t17_8 =>
 M.bind (pick (strip t12_4) (.bool true) t17_8) fun t18_9 =>
 condM t18_9
 (M.bind (bd [(.slice false true 0 []), (.bool false)] []) fun t19_10 =>
 M.bind (st 2 true t4_2 t19_10) fun _ =>
 M.bind (ld (some 2) true t4_2) fun t0_12 => guardM (!isTup t0_12) (M.pure (.tup [t0_12, (.int .i64 1)])))
 (M.bind (ld none false t2_0) fun t20_13 =>
 M.bind (ld none false t3_1) fun t21_14 =>
 M.bind (slL 2 t20_13 none (some t21_14)) fun t22_15 =>
 M.bind (C u3z [(strip t22_15)]) fun t23_16 =>
 M.bind (al [(.int .i64 0)]) fun t6_17 =>
 M.bind (st 1 true t6_17 t23_16) fun _ =>
 M.bind (ld none false t2_0) fun t24_19 =>
 M.bind (ld none false t3_1) fun t25_20 =>
 M.bind (iaS 2 t24_19 t25_20) fun t26_21 =>
 M.bind (fa 1 t26_21) fun t27_22 =>
 M.bind (ld none false t27_22) fun t28_23 =>
 M.bind (bd [(.slice false true 0 []), (.bool false)] [(1, 1, t28_23)]) fun t29_24 =>
 M.bind (al [(.slice false true 0 []), (.bool false)]) fun t7_25 =>
 M.bind (st 2 true t7_25 t29_24) fun _ =>
 M.bind (al [(.bool false)]) fun t8_27 =>
 M.bind (st 1 false t8_27 (.bool true)) fun _ =>
 M.bind (ld none false t2_0) fun t30_29 =>
 M.bind (ld none false t3_1) fun t31_30 =>
 M.bind (iaS 2 t30_29 t31_30) fun t32_31 =>
 M.bind (fa 0 t32_31) fun t33_32 =>
 M.bind (ld none false t33_32) fun t34_33 =>
 M.bind (lnL t34_33) fun t35_34 =>
 u0g t2_0 t3_1 t4_2 (.int .i64 0) t6_17 t7_25 t8_27 t34_33 t35_34 (.int .i64 0))) := by
 rw [C, u0o _ _ rfl]; kernel_rfl
noncomputable def u0e (v2 v3 v4 v5 v6 v7 v21 v22 v23 : PV) : M PV := atP P X u2v [1, 1, 1, 1, 0, 1, 0] (mkEnv 40 0 [(2, v2), (3, v3), (4, v4), (5, v5), (6, v6), (7, v7), (21, v21), (22, v22), (23, v23)])
theorem u2s (v2 v3 v4 v5 v6 v7 v21 v22 v23 : PV) : u0e v2 v3 v4 v5 v6 v7 v21 v22 v23 =
 M.bind (bi .lss .none v23 v22) fun t24_0 =>
 condM t24_0
 (M.bind (iaS 6 v21 v23) fun t25_1 =>
 M.bind (ld (some 6) true t25_1) fun t26_2 =>
 M.bind (al [(.bool false), (.slice false true 0 []), (.int .i64 0), (.slice false true 0 []), (.slice false true 0 []), (.slice false true 0 [])]) fun t9_3 =>
 M.bind (st 6 true t9_3 t26_2) fun _ =>
 chk
 (M.bind (noPan (fa 0 v6)) fun t27_14 =>
 M.bind (noPan (ld none true t27_14)) fun t28_15 =>
 M.bind (noPan (mf u05 [] [v7, v2, v3])) fun t30_16 =>
 M.bind (noPan (ld (some 6) false t9_3)) fun t29_17 =>
 M.bind (noPan (C u01 [(strip t29_17), (strip t30_16)])) fun t31_18 =>
 M.bind (noPan (bs true (some 6) [t31_18])) fun t32_19 =>
 M.bind (noPan (ap true 6 112 t28_15 t32_19)) fun t33_20 =>
 M.bind (noPan (fa 0 v6)) fun t34_21 =>
 M.bind (noPan (st 1 true t34_21 t33_20)) fun _ =>
 M.pure [.undef, .undef, v2, v3, v4, v5, v6, v7, .undef, t9_3, .undef, .undef, .undef, .undef, .undef, .undef, .undef, .undef, .undef, .undef, .undef, v21, v22, v23, t24_0, t25_1, (strip t26_2), t27_14, (strip t28_15), t29_17, t30_16, t31_18, t32_19, (strip t33_20), t34_21, .undef, .undef, .undef, .undef, .undef])
 (M.bind (noPan (fa 0 v6)) fun t27_5 =>
 M.bind (noPan (ld none true t27_5)) fun t28_6 =>
 M.bind (noPan (ld (some 6) false t9_3)) fun t29_7 =>
 M.bind (noPan (mf u05 [] [v7, v2, v3])) fun t30_8 =>
 M.bind (noPan (C u01 [(strip t29_7), (strip t30_8)])) fun t31_9 =>
 M.bind (noPan (bs true (some 6) [t31_9])) fun t32_10 =>
 M.bind (noPan (ap true 6 112 t28_6 t32_10)) fun t33_11 =>
 M.bind (noPan (fa 0 v6)) fun t34_12 =>
 M.bind (noPan (st 1 true t34_12 t33_11)) fun _ =>
 M.pure [.undef, .undef, v2, v3, v4, v5, v6, v7, .undef, t9_3, .undef, .undef, .undef, .undef, .undef, .undef, .undef, .undef, .undef, .undef, .undef, v21, v22, v23, t24_0, t25_1, (strip t26_2), t27_5, (strip t28_6), t29_7, t30_8, t31_9, t32_10, (strip t33_11), t34_12, .undef, .undef, .undef, .undef, .undef]) <|
 chk
 (M.bind (noPan (fa 0 v6)) fun t27_23 =>
 M.bind (noPan (ld (some 6) false t9_3)) fun t29_24 =>
 M.bind (noPan (ld none true t27_23)) fun t28_25 =>
 M.bind (noPan (mf u05 [] [v7, v2, v3])) fun t30_26 =>
 M.bind (noPan (C u01 [(strip t29_24), (strip t30_26)])) fun t31_27 =>
 M.bind (noPan (bs true (some 6) [t31_27])) fun t32_28 =>
 M.bind (noPan (ap true 6 112 t28_25 t32_28)) fun t33_29 =>
 M.bind (noPan (fa 0 v6)) fun t34_30 =>
 M.bind (noPan (st 1 true t34_30 t33_29)) fun _ =>
 M.pure [.undef, .undef, v2, v3, v4, v5, v6, v7, .undef, t9_3, .undef, .undef, .undef, .undef, .undef, .undef, .undef, .undef, .undef, .undef, .undef, v21, v22, v23, t24_0, t25_1, (strip t26_2), t27_23, (strip t28_25), t29_24, t30_26, t31_27, t32_28, (strip t33_29), t34_30, .undef, .undef, .undef, .undef, .undef])
 (M.bind (noPan (fa 0 v6)) fun t27_5 =>
 M.bind (noPan (ld none true t27_5)) fun t28_6 =>
 M.bind (noPan (ld (some 6) false t9_3)) fun t29_7 =>
 M.bind (noPan (mf u05 [] [v7, v2, v3])) fun t30_8 =>
 M.bind (noPan (C u01 [(strip t29_7), (strip t30_8)])) fun t31_9 =>
 M.bind (noPan (bs true (some 6) [t31_9])) fun t32_10 =>
 M.bind (noPan (ap true 6 112 t28_6 t32_10)) fun t33_11 =>
 M.bind (noPan (fa 0 v6)) fun t34_12 =>
 M.bind (noPan (st 1 true t34_12 t33_11)) fun _ =>
 M.pure [.undef, .undef, v2, v3, v4, v5, v6, v7, .undef, t9_3, .undef, .undef, .undef, .undef, .undef, .undef, .undef, .undef, .undef, .undef, .undef, v21, v22, v23, t24_0, t25_1, (strip t26_2), t27_5, (strip t28_6), t29_7, t30_8, t31_9, t32_10, (strip t33_11), t34_12, .undef, .undef, .undef, .undef, .undef]) <|
 chk
 (M.bind (noPan (fa 0 v6)) fun t27_32 =>
 M.bind (noPan (ld (some 6) false t9_3)) fun t29_33 =>
 M.bind (noPan (mf u05 [] [v7, v2, v3])) fun t30_34 =>
 M.bind (noPan (ld none true t27_32)) fun t28_35 =>
 M.bind (noPan (C u01 [(strip t29_33), (strip t30_34)])) fun t31_36 =>
 M.bind (noPan (bs true (some 6) [t31_36])) fun t32_37 =>
 M.bind (noPan (ap true 6 112 t28_35 t32_37)) fun t33_38 =>
 M.bind (noPan (fa 0 v6)) fun t34_39 =>
 M.bind (noPan (st 1 true t34_39 t33_38)) fun _ =>
 M.pure [.undef, .undef, v2, v3, v4, v5, v6, v7, .undef, t9_3, .undef, .undef, .undef, .undef, .undef, .undef, .undef, .undef, .undef, .undef, .undef, v21, v22, v23, t24_0, t25_1, (strip t26_2), t27_32, (strip t28_35), t29_33, t30_34, t31_36, t32_37, (strip t33_38), t34_39, .undef, .undef, .undef, .undef, .undef])
 (M.bind (noPan (fa 0 v6)) fun t27_5 =>
 M.bind (noPan (ld none true t27_5)) fun t28_6 =>
 M.bind (noPan (ld (some 6) false t9_3)) fun t29_7 =>
 M.bind (noPan (mf u05 [] [v7, v2, v3])) fun t30_8 =>
 M.bind (noPan (C u01 [(strip t29_7), (strip t30_8)])) fun t31_9 =>
 M.bind (noPan (bs true (some 6) [t31_9])) fun t32_10 =>
 M.bind (noPan (ap true 6 112 t28_6 t32_10)) fun t33_11 =>
 M.bind (noPan (fa 0 v6)) fun t34_12 =>
 M.bind (noPan (st 1 true t34_12 t33_11)) fun _ =>
 M.pure [.undef, .undef, v2, v3, v4, v5, v6, v7, .undef, t9_3, .undef, .undef, .undef, .undef, .undef, .undef, .undef, .undef, .undef, .undef, .undef, v21, v22, v23, t24_0, t25_1, (strip t26_2), t27_5, (strip t28_6), t29_7, t30_8, t31_9, t32_10, (strip t33_11), t34_12, .undef, .undef, .undef, .undef, .undef]) <|
 chk
 (M.bind (noPan (fa 0 v6)) fun t27_41 =>
 M.bind (noPan (ld (some 6) false t9_3)) fun t29_42 =>
 M.bind (noPan (mf u05 [] [v7, v2, v3])) fun t30_43 =>
 M.bind (noPan (C u01 [(strip t29_42), (strip t30_43)])) fun t31_44 =>
 M.bind (noPan (bs true (some 6) [t31_44])) fun t32_45 =>
 M.bind (noPan (ld none true t27_41)) fun t28_46 =>
 M.bind (noPan (ap true 6 112 t28_46 t32_45)) fun t33_47 =>
 M.bind (noPan (fa 0 v6)) fun t34_48 =>
 M.bind (noPan (st 1 true t34_48 t33_47)) fun _ =>
 M.pure [.undef, .undef, v2, v3, v4, v5, v6, v7, .undef, t9_3, .undef, .undef, .undef, .undef, .undef, .undef, .undef, .undef, .undef, .undef, .undef, v21, v22, v23, t24_0, t25_1, (strip t26_2), t27_41, (strip t28_46), t29_42, t30_43, t31_44, t32_45, (strip t33_47), t34_48, .undef, .undef, .undef, .undef, .undef])
 (M.bind (noPan (fa 0 v6)) fun t27_5 =>
 M.bind (noPan (ld none true t27_5)) fun t28_6 =>
 M.bind (noPan (ld (some 6) false t9_3)) fun t29_7 =>
 M.bind (noPan (mf u05 [] [v7, v2, v3])) fun t30_8 =>
 M.bind (noPan (C u01 [(strip t29_7), (strip t30_8)])) fun t31_9 =>
 M.bind (noPan (bs true (some 6) [t31_9])) fun t32_10 =>
 M.bind (noPan (ap true 6 112 t28_6 t32_10)) fun t33_11 =>
 M.bind (noPan (fa 0 v6)) fun t34_12 =>
 M.bind (noPan (st 1 true t34_12 t33_11)) fun _ =>
 M.pure [.undef, .undef, v2, v3, v4, v5, v6, v7, .undef, t9_3, .undef, .undef, .undef, .undef, .undef, .undef, .undef, .undef, .undef, .undef, .undef, v21, v22, v23, t24_0, t25_1, (strip t26_2), t27_5, (strip t28_6), t29_7, t30_8, t31_9, t32_10, (strip t33_11), t34_12, .undef, .undef, .undef, .undef, .undef]) <|
 chk
 (M.bind (noPan (fa 0 v6)) fun t27_50 =>
 M.bind (noPan (mf u05 [] [v7, v2, v3])) fun t30_51 =>
 M.bind (noPan (ld none true t27_50)) fun t28_52 =>
 M.bind (noPan (ld (some 6) false t9_3)) fun t29_53 =>
 M.bind (noPan (C u01 [(strip t29_53), (strip t30_51)])) fun t31_54 =>
 M.bind (noPan (bs true (some 6) [t31_54])) fun t32_55 =>
 M.bind (noPan (ap true 6 112 t28_52 t32_55)) fun t33_56 =>
 M.bind (noPan (fa 0 v6)) fun t34_57 =>
 M.bind (noPan (st 1 true t34_57 t33_56)) fun _ =>
 M.pure [.undef, .undef, v2, v3, v4, v5, v6, v7, .undef, t9_3, .undef, .undef, .undef, .undef, .undef, .undef, .undef, .undef, .undef, .undef, .undef, v21, v22, v23, t24_0, t25_1, (strip t26_2), t27_50, (strip t28_52), t29_53, t30_51, t31_54, t32_55, (strip t33_56), t34_57, .undef, .undef, .undef, .undef, .undef])
 (M.bind (noPan (fa 0 v6)) fun t27_5 =>
 M.bind (noPan (ld none true t27_5)) fun t28_6 =>
 M.bind (noPan (ld (some 6) false t9_3)) fun t29_7 =>
 M.bind (noPan (mf u05 [] [v7, v2, v3])) fun t30_8 =>
 M.bind (noPan (C u01 [(strip t29_7), (strip t30_8)])) fun t31_9 =>
 M.bind (noPan (bs true (some 6) [t31_9])) fun t32_10 =>
 M.bind (noPan (ap true 6 112 t28_6 t32_10)) fun t33_11 =>
 M.bind (noPan (fa 0 v6)) fun t34_12 =>
 M.bind (noPan (st 1 true t34_12 t33_11)) fun _ =>
 M.pure [.undef, .undef, v2, v3, v4, v5, v6, v7, .undef, t9_3, .undef, .undef, .undef, .undef, .undef, .undef, .undef, .undef, .undef, .undef, .undef, v21, v22, v23, t24_0, t25_1, (strip t26_2), t27_5, (strip t28_6), t29_7, t30_8, t31_9, t32_10, (strip t33_11), t34_12, .undef, .undef, .undef, .undef, .undef]) <|
 chk
 (M.bind (noPan (fa 0 v6)) fun t27_59 =>
 M.bind (noPan (mf u05 [] [v7, v2, v3])) fun t30_60 =>
 M.bind (noPan (ld (some 6) false t9_3)) fun t29_61 =>
 M.bind (noPan (ld none true t27_59)) fun t28_62 =>
 M.bind (noPan (C u01 [(strip t29_61), (strip t30_60)])) fun t31_63 =>
 M.bind (noPan (bs true (some 6) [t31_63])) fun t32_64 =>
 M.bind (noPan (ap true 6 112 t28_62 t32_64)) fun t33_65 =>
 M.bind (noPan (fa 0 v6)) fun t34_66 =>
 M.bind (noPan (st 1 true t34_66 t33_65)) fun _ =>
 M.pure [.undef, .undef, v2, v3, v4, v5, v6, v7, .undef, t9_3, .undef, .undef, .undef, .undef, .undef, .undef, .undef, .undef, .undef, .undef, .undef, v21, v22, v23, t24_0, t25_1, (strip t26_2), t27_59, (strip t28_62), t29_61, t30_60, t31_63, t32_64, (strip t33_65), t34_66, .undef, .undef, .undef, .undef, .undef])
 (M.bind (noPan (fa 0 v6)) fun t27_5 =>
 M.bind (noPan (ld none true t27_5)) fun t28_6 =>
 M.bind (noPan (ld (some 6) false t9_3)) fun t29_7 =>
 M.bind (noPan (mf u05 [] [v7, v2, v3])) fun t30_8 =>
 M.bind (noPan (C u01 [(strip t29_7), (strip t30_8)])) fun t31_9 =>
 M.bind (noPan (bs true (some 6) [t31_9])) fun t32_10 =>
 M.bind (noPan (ap true 6 112 t28_6 t32_10)) fun t33_11 =>
 M.bind (noPan (fa 0 v6)) fun t34_12 =>
 M.bind (noPan (st 1 true t34_12 t33_11)) fun _ =>
 M.pure [.undef, .undef, v2, v3, v4, v5, v6, v7, .undef, t9_3, .undef, .undef, .undef, .undef, .undef, .undef, .undef, .undef, .undef, .undef, .undef, v21, v22, v23, t24_0, t25_1, (strip t26_2), t27_5, (strip t28_6), t29_7, t30_8, t31_9, t32_10, (strip t33_11), t34_12, .undef, .undef, .undef, .undef, .undef]) <|
 chk
 (M.bind (noPan (fa 0 v6)) fun t27_68 =>
 M.bind (noPan (mf u05 [] [v7, v2, v3])) fun t30_69 =>
 M.bind (noPan (ld (some 6) false t9_3)) fun t29_70 =>
 M.bind (noPan (C u01 [(strip t29_70), (strip t30_69)])) fun t31_71 =>
 M.bind (noPan (bs true (some 6) [t31_71])) fun t32_72 =>
 M.bind (noPan (ld none true t27_68)) fun t28_73 =>
 M.bind (noPan (ap true 6 112 t28_73 t32_72)) fun t33_74 =>
 M.bind (noPan (fa 0 v6)) fun t34_75 =>
 M.bind (noPan (st 1 true t34_75 t33_74)) fun _ =>
 M.pure [.undef, .undef, v2, v3, v4, v5, v6, v7, .undef, t9_3, .undef, .undef, .undef, .undef, .undef, .undef, .undef, .undef, .undef, .undef, .undef, v21, v22, v23, t24_0, t25_1, (strip t26_2), t27_68, (strip t28_73), t29_70, t30_69, t31_71, t32_72, (strip t33_74), t34_75, .undef, .undef, .undef, .undef, .undef])
 (M.bind (noPan (fa 0 v6)) fun t27_5 =>
 M.bind (noPan (ld none true t27_5)) fun t28_6 =>
 M.bind (noPan (ld (some 6) false t9_3)) fun t29_7 =>
 M.bind (noPan (mf u05 [] [v7, v2, v3])) fun t30_8 =>
 M.bind (noPan (C u01 [(strip t29_7), (strip t30_8)])) fun t31_9 =>
 M.bind (noPan (bs true (some 6) [t31_9])) fun t32_10 =>
 M.bind (noPan (ap true 6 112 t28_6 t32_10)) fun t33_11 =>
 M.bind (noPan (fa 0 v6)) fun t34_12 =>
 M.bind (noPan (st 1 true t34_12 t33_11)) fun _ =>
 M.pure [.undef, .undef, v2, v3, v4, v5, v6, v7, .undef, t9_3, .undef, .undef, .undef, .undef, .undef, .undef, .undef, .undef, .undef, .undef, .undef, v21, v22, v23, t24_0, t25_1, (strip t26_2), t27_5, (strip t28_6), t29_7, t30_8, t31_9, t32_10, (strip t33_11), t34_12, .undef, .undef, .undef, .undef, .undef]) <|
 M.bind (noPan (fa 0 v6)) fun t27_77 =>
 M.bind (noPan (ld none true t27_77)) fun t28_78 =>
 M.bind (noPan (ld (some 6) false t9_3)) fun t29_79 =>
 M.bind (noPan (mf u05 [] [v7, v2, v3])) fun t30_80 =>
 M.bind (noPan (C u01 [(strip t29_79), (strip t30_80)])) fun t31_81 =>
 M.bind (noPan (bs true (some 6) [t31_81])) fun t32_82 =>
 M.bind (noPan (ap true 6 112 t28_78 t32_82)) fun t33_83 =>
 M.bind (noPan (fa 0 v6)) fun t34_84 =>
 M.bind (noPan (st 1 true t34_84 t33_83)) fun _ =>
 M.bind (bi .add .none v23 (.int .i64 1)) fun t35_86 =>
 u0e v2 v3 v4 v5 v6 v7 v21 v22 (strip t35_86))
 (M.bind (ld none false v7) fun t36_87 =>
 M.bind (un .not t36_87) fun t37_88 =>
 condM t37_88
 (M.bind (bd [(.slice false true 0 []), (.bool false)] []) fun t38_89 =>
 M.bind (st 2 true v4 t38_89) fun _ =>
 M.bind (ld (some 2) true v4) fun t0_91 => guardM (!isTup t0_91) (M.pure (.tup [t0_91, (.int .i64 50)])))
 (M.bind (ld (some 2) true v6) fun t39_92 =>
 M.bind (st 2 true v4 t39_92) fun _ =>
 M.bind (ld (some 2) true v4) fun t0_94 => guardM (!isTup t0_94) (M.pure (.tup [t0_94, (.int .i64 0)])))) :=
 (u13 P X _ _ _).trans (by kernel_rfl)
theorem u9h (a0 a1 : PV) : C u2v [a0, a1] =
 trunc (M.bind (bx 2 a0) fun t2_0 =>
 M.bind (bx 1 a1) fun t3_1 =>
 M.bind (al [(.slice false true 0 []), (.bool false)]) fun t4_2 =>
 M.bind (ld none false t3_1) fun t10_3 =>
 M.bind (bi .lss .none t10_3 (.int .i64 0)) fun t11_4 =>
 M.bind (gd (strip t11_4) false (ld none false t3_1)) fun t13_5 =>
 M.bind (gd (strip t11_4) false (bi .gtr .none t13_5 (.int .i64 2147483647))) fun t14_6 =>
 M.bind (pick (strip t11_4) (.bool true) t14_6) fun t15_7 =>
 condM t15_7
 (M.bind (bd [(.slice false true 0 []), (.bool false)] []) fun t16_8 =>
 M.bind (st 2 true t4_2 t16_8) fun _ =>
 M.bind (ld (some 2) true t4_2) fun t0_10 => guardM (!isTup t0_10) (M.pure (.tup [t0_10, (.int .i64 1)])))
 (M.bind (fa 1 t2_0) fun t17_11 =>
 M.bind (ld none false t17_11) fun t18_12 =>
 M.bind (bd [(.slice false true 0 []), (.bool false)] [(1, 1, t18_12)]) fun t19_13 =>
 M.bind (al [(.slice false true 0 []), (.bool false)]) fun t6_14 =>
 M.bind (st 2 true t6_14 t19_13) fun _ =>
 M.bind (al [(.bool false)]) fun t7_16 =>
 M.bind (st 1 false t7_16 (.bool true)) fun _ =>
 M.bind (fa 0 t2_0) fun t20_18 =>
 M.bind (ld none false t20_18) fun t21_19 =>
 M.bind (lnL t21_19) fun t22_20 =>
 u0e t2_0 t3_1 t4_2 (.int .i64 0) t6_14 t7_16 t21_19 t22_20 (.int .i64 0))) := by
 rw [C, u0o _ _ rfl]; kernel_rfl
noncomputable def u0u (v0 v1 v2 v6 v14 v15 : PV) : M PV := atP P X u1g [1, 1, 0, 1, 0] (mkEnv 30 0 [(0, v0), (1, v1), (2, v2), (6, v6), (14, v14), (15, v15)])
theorem u1v (v0 v1 v2 v6 v14 v15 : PV) : u0u v0 v1 v2 v6 v14 v15 =
 M.bind (bi .lss .none v15 v14) fun t16_0 =>
 condM t16_0
 (M.bind (noPan (M.pure (strip v2))) fun t18_12 =>
 M.bind (noPan (M.pure (strip v0))) fun t19_13 =>
 M.bind (noPan (M.pure (strip v15))) fun t20_14 =>
 M.bind (noPan (iaS 6 t19_13 t20_14)) fun t21_15 =>
 M.bind (noPan (M.pure (strip v1))) fun t23_16 =>
 M.bind (noPan (M.pure (strip v15))) fun t24_17 =>
 M.bind (noPan (iaS 6 t23_16 t24_17)) fun t25_18 =>
 M.bind (noPan (ld (some 6) false t21_15)) fun t22_19 =>
 M.bind (noPan (ld (some 6) false t25_18)) fun t26_20 =>
 M.bind (noPan (callV P C t18_12 [(strip t22_19), (strip t26_20)])) fun t27_21 =>
 M.bind (noPan (un .not t27_21)) fun t28_22 =>
 condM t28_22
 (M.pure (.bool false))
 (M.bind (bi .add .none (strip v15) (.int .i64 1)) fun t29_23 =>
 u0u v0 v1 v2 v6 v14 (strip t29_23)))
 (M.pure (.bool true)) :=
 (u13 P X _ _ _).trans (by kernel_rfl)
theorem u49 (a0 a1 a2 : PV) : C u1g [a0, a1, a2] =
 trunc (M.bind (lnL (strip a0)) fun t9_0 =>
 M.bind (lnL (strip a1)) fun t11_1 =>
 M.bind (bi .neq .none t9_0 t11_1) fun t12_2 =>
 condM t12_2
 (M.pure (.bool false))
 (M.bind (lnL (strip a0)) fun t14_3 =>
 u0u a0 a1 a2 (.bool false) t14_3 (.int .i64 0))) := by
 rw [C, u0o _ _ rfl]; kernel_rfl
theorem u88 (a0 a1 : PV) : C u38 [a0, a1] =
 trunc (M.bind (bx 6 a0) fun t2_0 =>
 M.bind (bx 6 a1) fun t3_1 =>
 chkA
 (nb (fa 2 t2_0) fun t9_2 =>
 nb (ld (some 4) true t9_2) fun t10_3 =>
 nb (fa 2 t3_1) fun t11_4 =>
 nb (ld (some 4) true t11_4) fun t12_5 =>
 guardM ((!clash (tld t11_4) (tld t9_2) || (isAlT (tld t11_4) && isAlT (tld t9_2))) && ((!clash (tld t11_4) (.no) || (isAlT (tld t11_4) && isAlT (.no))) && true)) <| M.bind (noPan (al [(.int .i64 0), (.slice false true 0 []), (.slice false true 0 []), (.slice false true 0 [])])) fun t8_6 =>
 guardM ((!clash (u09 t8_6) (tld t11_4) || (isAlT (u09 t8_6) && isAlT (tld t11_4))) && ((!clash (u09 t8_6) (.no) || (isAlT (u09 t8_6) && isAlT (.no))) && ((!clash (u09 t8_6) (tld t9_2) || (isAlT (u09 t8_6) && isAlT (tld t9_2))) && ((!clash (u09 t8_6) (.no) || (isAlT (u09 t8_6) && isAlT (.no))) && true)))) <| M.bind (noPan (al [(.int .i64 0), (.slice false true 0 []), (.slice false true 0 []), (.slice false true 0 [])])) fun t7_7 =>
 guardM ((!clash (u09 t7_7) (u09 t8_6) || (isAlT (u09 t7_7) && isAlT (u09 t8_6))) && ((!clash (u09 t7_7) (tld t11_4) || (isAlT (u09 t7_7) && isAlT (tld t11_4))) && ((!clash (u09 t7_7) (.no) || (isAlT (u09 t7_7) && isAlT (.no))) && ((!clash (u09 t7_7) (tld t9_2) || (isAlT (u09 t7_7) && isAlT (tld t9_2))) && ((!clash (u09 t7_7) (.no) || (isAlT (u09 t7_7) && isAlT (.no))) && true))))) <| M.bind (noPan (st 4 true t7_7 t10_3)) fun _ =>
 guardM ((!clash (tst t7_7) (tld t11_4) || (isAlT (tst t7_7) && isAlT (tld t11_4))) && ((!clash (tst t7_7) (.no) || (isAlT (tst t7_7) && isAlT (.no))) && true)) <| M.bind (noPan (st 4 true t8_6 t12_5)) fun _ =>
 M.pure [a0, a1, t2_0, t3_1, (PV.bool false), (PV.fn u1q [] []), (PV.fn u1s [] []), t7_7, t8_6, t9_2, (strip t10_3), t11_4, (strip t12_5), PV.undef, PV.undef, PV.undef, PV.undef, PV.undef, PV.undef, PV.undef, PV.undef, PV.undef, PV.undef, PV.undef, PV.undef, PV.undef, PV.undef, PV.undef, PV.undef, PV.undef, PV.undef, PV.undef, PV.undef, PV.undef, PV.undef, PV.undef, PV.undef, PV.undef, PV.undef, PV.undef, PV.undef, PV.undef, PV.undef, PV.undef, PV.undef, PV.undef, PV.undef, PV.undef, PV.undef, PV.undef, PV.undef, PV.undef, PV.undef, PV.undef, PV.undef])
 (nb (fa 2 t2_0) fun t9_10 =>
 nb (ld (some 4) true t9_10) fun t10_11 =>
 nb (fa 2 t3_1) fun t11_12 =>
 nb (ld (some 4) true t11_12) fun t12_13 =>
 guardM ((!clash (tld t11_12) (tld t9_10) || (isAlT (tld t11_12) && isAlT (tld t9_10))) && ((!clash (tld t11_12) (.no) || (isAlT (tld t11_12) && isAlT (.no))) && true)) <| M.bind (noPan (al [(.int .i64 0), (.slice false true 0 []), (.slice false true 0 []), (.slice false true 0 [])])) fun t7_14 =>
 guardM ((!clash (u09 t7_14) (tld t11_12) || (isAlT (u09 t7_14) && isAlT (tld t11_12))) && ((!clash (u09 t7_14) (.no) || (isAlT (u09 t7_14) && isAlT (.no))) && ((!clash (u09 t7_14) (tld t9_10) || (isAlT (u09 t7_14) && isAlT (tld t9_10))) && ((!clash (u09 t7_14) (.no) || (isAlT (u09 t7_14) && isAlT (.no))) && true)))) <| M.bind (noPan (al [(.int .i64 0), (.slice false true 0 []), (.slice false true 0 []), (.slice false true 0 [])])) fun t8_15 =>
 guardM ((!clash (u09 t8_15) (u09 t7_14) || (isAlT (u09 t8_15) && isAlT (u09 t7_14))) && ((!clash (u09 t8_15) (tld t11_12) || (isAlT (u09 t8_15) && isAlT (tld t11_12))) && ((!clash (u09 t8_15) (.no) || (isAlT (u09 t8_15) && isAlT (.no))) && ((!clash (u09 t8_15) (tld t9_10) || (isAlT (u09 t8_15) && isAlT (tld t9_10))) && ((!clash (u09 t8_15) (.no) || (isAlT (u09 t8_15) && isAlT (.no))) && true))))) <| M.bind (noPan (st 4 true t7_14 t10_11)) fun _ =>
 guardM ((!clash (tst t7_14) (tld t11_12) || (isAlT (tst t7_14) && isAlT (tld t11_12))) && ((!clash (tst t7_14) (.no) || (isAlT (tst t7_14) && isAlT (.no))) && true)) <| M.bind (noPan (st 4 true t8_15 t12_13)) fun _ =>
 M.pure [a0, a1, t2_0, t3_1, (PV.bool false), (PV.fn u1q [] []), (PV.fn u1s [] []), t7_14, t8_15, t9_10, (strip t10_11), t11_12, (strip t12_13), PV.undef, PV.undef, PV.undef, PV.undef, PV.undef, PV.undef, PV.undef, PV.undef, PV.undef, PV.undef, PV.undef, PV.undef, PV.undef, PV.undef, PV.undef, PV.undef, PV.undef, PV.undef, PV.undef, PV.undef, PV.undef, PV.undef, PV.undef, PV.undef, PV.undef, PV.undef, PV.undef, PV.undef, PV.undef, PV.undef, PV.undef, PV.undef, PV.undef, PV.undef, PV.undef, PV.undef, PV.undef, PV.undef, PV.undef, PV.undef, PV.undef, PV.undef]) <|
 nb (fa 2 t2_0) fun t9_18 =>
 nb (ld (some 4) true t9_18) fun t10_19 =>
 nb (fa 2 t3_1) fun t11_20 =>
 nb (ld (some 4) true t11_20) fun t12_21 =>
 guardM ((!clash (tld t11_20) (tld t9_18) || (isAlT (tld t11_20) && isAlT (tld t9_18))) && ((!clash (tld t11_20) (.no) || (isAlT (tld t11_20) && isAlT (.no))) && true)) <| M.bind (noPan (al [(.int .i64 0), (.slice false true 0 []), (.slice false true 0 []), (.slice false true 0 [])])) fun t7_22 =>
 guardM ((!clash (u09 t7_22) (tld t11_20) || (isAlT (u09 t7_22) && isAlT (tld t11_20))) && ((!clash (u09 t7_22) (.no) || (isAlT (u09 t7_22) && isAlT (.no))) && ((!clash (u09 t7_22) (tld t9_18) || (isAlT (u09 t7_22) && isAlT (tld t9_18))) && ((!clash (u09 t7_22) (.no) || (isAlT (u09 t7_22) && isAlT (.no))) && true)))) <| M.bind (noPan (al [(.int .i64 0), (.slice false true 0 []), (.slice false true 0 []), (.slice false true 0 [])])) fun t8_23 =>
 guardM ((!clash (u09 t8_23) (u09 t7_22) || (isAlT (u09 t8_23) && isAlT (u09 t7_22))) && ((!clash (u09 t8_23) (tld t11_20) || (isAlT (u09 t8_23) && isAlT (tld t11_20))) && ((!clash (u09 t8_23) (.no) || (isAlT (u09 t8_23) && isAlT (.no))) && ((!clash (u09 t8_23) (tld t9_18) || (isAlT (u09 t8_23) && isAlT (tld t9_18))) && ((!clash (u09 t8_23) (.no) || (isAlT (u09 t8_23) && isAlT (.no))) && true))))) <| M.bind (noPan (st 4 true t7_22 t10_19)) fun _ =>
 guardM ((!clash (tst t7_22) (tld t11_20) || (isAlT (tst t7_22) && isAlT (tld t11_20))) && ((!clash (tst t7_22) (.no) || (isAlT (tst t7_22) && isAlT (.no))) && true)) <| M.bind (noPan (st 4 true t8_23 t12_21)) fun _ =>
 M.bind (fa 0 t2_0) fun t13_26 =>
 M.bind (ld none false t13_26) fun t14_27 =>
 M.bind (fa 0 t3_1) fun t15_28 =>
 M.bind (ld none false t15_28) fun t16_29 =>
 M.bind (bi .eql .bool t14_27 t16_29) fun t17_30 =>
 M.bind (gd (strip t17_30) true (fa 1 t2_0)) fun t19_31 =>
 M.bind (gd (strip t17_30) true (ld none false t19_31)) fun t20_32 =>
 M.bind (gd (strip t17_30) true (fa 1 t3_1)) fun t21_33 =>
 M.bind (gd (strip t17_30) true (ld none false t21_33)) fun t22_34 =>
 M.bind (gd (strip t17_30) true (M.pure (.fn u1s [] []))) fun t23_35 =>
 M.bind (gd (strip t17_30) true (C u2n [(strip t20_32), (strip t22_34), (strip t23_35)])) fun t24_36 =>
 M.bind (pick (strip t17_30) t24_36 (.bool false)) fun t25_37 =>
 M.bind (gd (strip t25_37) true (fa 0 t7_22)) fun t27_38 =>
 M.bind (gd (strip t25_37) true (ld none false t27_38)) fun t28_39 =>
 M.bind (gd (strip t25_37) true (fa 0 t8_23)) fun t29_40 =>
 M.bind (gd (strip t25_37) true (ld none false t29_40)) fun t30_41 =>
 M.bind (gd (strip t25_37) true (bi .eql .none t28_39 t30_41)) fun t31_42 =>
 M.bind (pick (strip t25_37) t31_42 (.bool false)) fun t32_43 =>
 M.bind (gd (strip t32_43) true (fa 1 t7_22)) fun t34_44 =>
 M.bind (gd (strip t32_43) true (ld none false t34_44)) fun t35_45 =>
 M.bind (gd (strip t32_43) true (fa 1 t8_23)) fun t36_46 =>
 M.bind (gd (strip t32_43) true (ld none false t36_46)) fun t37_47 =>
 M.bind (gd (strip t32_43) true (C u0x [(strip t35_45), (strip t37_47), (.fn u2j [] [])])) fun t38_48 =>
 M.bind (pick (strip t32_43) t38_48 (.bool false)) fun t39_49 =>
 M.bind (gd (strip t39_49) true (fa 2 t7_22)) fun t41_50 =>
 M.bind (gd (strip t39_49) true (ld none false t41_50)) fun t42_51 =>
 M.bind (gd (strip t39_49) true (fa 2 t8_23)) fun t43_52 =>
 M.bind (gd (strip t39_49) true (ld none false t43_52)) fun t44_53 =>
 M.bind (gd (strip t39_49) true (C u0x [(strip t42_51), (strip t44_53), (.fn u2j [] [])])) fun t45_54 =>
 M.bind (pick (strip t39_49) t45_54 (.bool false)) fun t46_55 =>
 M.bind (gd (strip t46_55) true (fa 3 t7_22)) fun t48_56 =>
 M.bind (gd (strip t46_55) true (ld none false t48_56)) fun t49_57 =>
 M.bind (gd (strip t46_55) true (fa 3 t8_23)) fun t50_58 =>
 M.bind (gd (strip t46_55) true (ld none false t50_58)) fun t51_59 =>
 M.bind (gd (strip t46_55) true (M.pure (.fn u1q [] []))) fun t52_60 =>
 M.bind (gd (strip t46_55) true (C u1p [(strip t49_57), (strip t51_59), (strip t52_60)])) fun t53_61 =>
 M.bind (pick (strip t46_55) t53_61 (.bool false)) fun t54_62 =>
 resT t54_62 (M.pure t54_62)) := by
 rw [C, u0o _ _ rfl]; kernel_rfl
theorem uc2 (a0 : PV) : C u5c [a0] =
 trunc (M.bind (bx 3 a0) fun t1_0 =>
 M.bind (fa 0 t1_0) fun t4_1 =>
 M.bind (ld none false t4_1) fun t5_2 =>
 M.bind (bi .eql .none t5_2 (.int .i64 5)) fun t6_3 =>
 M.bind (gd (strip t6_3) true (fa 1 t1_0)) fun t8_4 =>
 M.bind (gd (strip t6_3) true (ld none false t8_4)) fun t9_5 =>
 M.bind (pick (strip t6_3) t9_5 (.bool false)) fun t10_6 =>
 condM t10_6
 (M.bind (fa 2 t1_0) fun t11_7 =>
 M.bind (ld none false t11_7) fun t12_8 =>
 M.bind (C u54 [(strip t12_8)]) fun t13_9 =>
 M.bind (bi .add .none (.str ⟨#[40, 114, 101, 102, 32, 110, 117, 108, 108, 32]⟩) t13_9) fun t14_10 =>
 M.bind (bi .add .none t14_10 (.str ⟨#[41]⟩)) fun t15_11 =>
 resT t15_11 (M.pure t15_11))
 (M.bind (fa 0 t1_0) fun t17_12 =>
 M.bind (ld none false t17_12) fun t18_13 =>
 M.bind (bi .eql .none t18_13 (.int .i64 5)) fun t19_14 =>
 condM t19_14
 (M.bind (fa 2 t1_0) fun t20_15 =>
 M.bind (ld none false t20_15) fun t21_16 =>
 M.bind (C u54 [(strip t21_16)]) fun t22_17 =>
 M.bind (bi .add .none (.str ⟨#[40, 114, 101, 102, 32]⟩) t22_17) fun t23_18 =>
 M.bind (bi .add .none t23_18 (.str ⟨#[41]⟩)) fun t24_19 =>
 resT t24_19 (M.pure t24_19))
 (M.bind (fa 0 t1_0) fun t26_20 =>
 M.bind (ld none false t26_20) fun t27_21 =>
 M.bind (bi .geq .none t27_21 (.int .i64 1)) fun t28_22 =>
 M.bind (gd (strip t28_22) true (fa 0 t1_0)) fun t30_23 =>
 M.bind (gd (strip t28_22) true (ld none false t30_23)) fun t31_24 =>
 M.bind (gd (strip t28_22) true (bi .leq .none t31_24 (.int .i64 7))) fun t32_25 =>
 M.bind (pick (strip t28_22) t32_25 (.bool false)) fun t33_26 =>
 condM t33_26
 (nb (C u46 []) fun t34_27 =>
 nb (fa 0 t1_0) fun t35_28 =>
 nb (ld none false t35_28) fun t36_29 =>
 nb (ixA 8 1 none t34_27 t36_29) fun t37_30 =>
 resT t37_30 (M.pure t37_30))
 (M.pure (.str ⟨#[63]⟩))))) := by
 rw [C, u0o _ _ rfl]; kernel_rfl
end Go.Proofs.YtiiepllnnjjmaaaDoor.Pi.Q
namespace Go.Proofs.YtiiepllnnjjmaaaDoor.Pi.Q
open Go Go.Proofs.YtiiepllnnjjmaaaDoor.Pi
noncomputable def u11 (v2 v3 v4 v5 v6 v24 v25 v26 : PV) : M PV := atP P X u01 [1, 1, 1, 0, 1, 0] (mkEnv 101 0 [(2, v2), (3, v3), (4, v4), (5, v5), (6, v6), (24, v24), (25, v25), (26, v26)])
noncomputable def u0k (v2 v4 v5 v6 v41 v42 v43 : PV) : M PV := atP P X u01 [1, 1, 1, 1, 0, 1, 0] (mkEnv 101 0 [(2, v2), (4, v4), (5, v5), (6, v6), (41, v41), (42, v42), (43, v43)])
noncomputable def u0h (v2 v4 v5 v6 v60 v61 v62 : PV) : M PV := atP P X u01 [1, 1, 1, 1, 1, 0, 1, 0] (mkEnv 101 0 [(2, v2), (4, v4), (5, v5), (6, v6), (60, v60), (61, v61), (62, v62)])
noncomputable def u0f (v4 v5 v6 v79 v80 v81 : PV) : M PV := atP P X u01 [1, 1, 1, 1, 1, 1, 0, 1, 0] (mkEnv 101 0 [(4, v4), (5, v5), (6, v6), (79, v79), (80, v80), (81, v81)])
theorem u31 (v2 v3 v4 v5 v6 v24 v25 v26 : PV) : u11 v2 v3 v4 v5 v6 v24 v25 v26 =
 M.bind (bi .lss .none v26 v25) fun t27_0 =>
 condM t27_0
 (M.bind (iaS 1 v24 v26) fun t28_1 =>
 M.bind (ld none true t28_1) fun t29_2 =>
 chk
 (M.bind (noPan (fa 1 v6)) fun t30_12 =>
 M.bind (noPan (M.pure (strip t29_2))) fun t33_13 =>
 M.bind (noPan (ld none false v3)) fun t32_14 =>
 M.bind (noPan (ld none true t30_12)) fun t31_15 =>
 M.bind (noPan (callV P C t32_14 [(strip t33_13)])) fun t34_16 =>
 M.bind (noPan (bs true none [t34_16])) fun t35_17 =>
 M.bind (noPan (ap true 1 8 t31_15 t35_17)) fun t36_18 =>
 M.bind (noPan (fa 1 v6)) fun t37_19 =>
 M.bind (noPan (st 1 true t37_19 t36_18)) fun _ =>
 M.pure [PV.undef, PV.undef, v2, v3, v4, v5, v6, PV.undef, t29_2, PV.undef, PV.undef, PV.undef, PV.undef, PV.undef, PV.undef, PV.undef, PV.undef, PV.undef, PV.undef, PV.undef, PV.undef, PV.undef, PV.undef, PV.undef, v24, v25, v26, t27_0, t28_1, (strip t29_2), t30_12, (strip t31_15), t32_14, t33_13, t34_16, t35_17, (strip t36_18), t37_19, PV.undef, PV.undef, PV.undef, PV.undef, PV.undef, PV.undef, PV.undef, PV.undef, PV.undef, PV.undef, PV.undef, PV.undef, PV.undef, PV.undef, PV.undef, PV.undef, PV.undef, PV.undef, PV.undef, PV.undef, PV.undef, PV.undef, PV.undef, PV.undef, PV.undef, PV.undef, PV.undef, PV.undef, PV.undef, PV.undef, PV.undef, PV.undef, PV.undef, PV.undef, PV.undef, PV.undef, PV.undef, PV.undef, PV.undef, PV.undef, PV.undef, PV.undef, PV.undef, PV.undef, PV.undef, PV.undef, PV.undef, PV.undef, PV.undef, PV.undef, PV.undef, PV.undef, PV.undef, PV.undef, PV.undef, PV.undef, PV.undef, PV.undef, PV.undef, PV.undef, PV.undef, PV.undef, PV.undef])
 (M.bind (noPan (fa 1 v6)) fun t30_3 =>
 M.bind (noPan (M.pure (strip t29_2))) fun t33_4 =>
 M.bind (noPan (ld none true t30_3)) fun t31_5 =>
 M.bind (noPan (ld none false v3)) fun t32_6 =>
 M.bind (noPan (callV P C t32_6 [(strip t33_4)])) fun t34_7 =>
 M.bind (noPan (bs true none [t34_7])) fun t35_8 =>
 M.bind (noPan (ap true 1 8 t31_5 t35_8)) fun t36_9 =>
 M.bind (noPan (fa 1 v6)) fun t37_10 =>
 M.bind (noPan (st 1 true t37_10 t36_9)) fun _ =>
 M.pure [PV.undef, PV.undef, v2, v3, v4, v5, v6, PV.undef, t29_2, PV.undef, PV.undef, PV.undef, PV.undef, PV.undef, PV.undef, PV.undef, PV.undef, PV.undef, PV.undef, PV.undef, PV.undef, PV.undef, PV.undef, PV.undef, v24, v25, v26, t27_0, t28_1, (strip t29_2), t30_3, (strip t31_5), t32_6, t33_4, t34_7, t35_8, (strip t36_9), t37_10, PV.undef, PV.undef, PV.undef, PV.undef, PV.undef, PV.undef, PV.undef, PV.undef, PV.undef, PV.undef, PV.undef, PV.undef, PV.undef, PV.undef, PV.undef, PV.undef, PV.undef, PV.undef, PV.undef, PV.undef, PV.undef, PV.undef, PV.undef, PV.undef, PV.undef, PV.undef, PV.undef, PV.undef, PV.undef, PV.undef, PV.undef, PV.undef, PV.undef, PV.undef, PV.undef, PV.undef, PV.undef, PV.undef, PV.undef, PV.undef, PV.undef, PV.undef, PV.undef, PV.undef, PV.undef, PV.undef, PV.undef, PV.undef, PV.undef, PV.undef, PV.undef, PV.undef, PV.undef, PV.undef, PV.undef, PV.undef, PV.undef, PV.undef, PV.undef, PV.undef, PV.undef, PV.undef, PV.undef]) <|
 chk
 (M.bind (noPan (fa 1 v6)) fun t30_21 =>
 M.bind (noPan (M.pure (strip t29_2))) fun t33_22 =>
 M.bind (noPan (ld none false v3)) fun t32_23 =>
 M.bind (noPan (callV P C t32_23 [(strip t33_22)])) fun t34_24 =>
 M.bind (noPan (bs true none [t34_24])) fun t35_25 =>
 M.bind (noPan (ld none true t30_21)) fun t31_26 =>
 M.bind (noPan (ap true 1 8 t31_26 t35_25)) fun t36_27 =>
 M.bind (noPan (fa 1 v6)) fun t37_28 =>
 M.bind (noPan (st 1 true t37_28 t36_27)) fun _ =>
 M.pure [PV.undef, PV.undef, v2, v3, v4, v5, v6, PV.undef, t29_2, PV.undef, PV.undef, PV.undef, PV.undef, PV.undef, PV.undef, PV.undef, PV.undef, PV.undef, PV.undef, PV.undef, PV.undef, PV.undef, PV.undef, PV.undef, v24, v25, v26, t27_0, t28_1, (strip t29_2), t30_21, (strip t31_26), t32_23, t33_22, t34_24, t35_25, (strip t36_27), t37_28, PV.undef, PV.undef, PV.undef, PV.undef, PV.undef, PV.undef, PV.undef, PV.undef, PV.undef, PV.undef, PV.undef, PV.undef, PV.undef, PV.undef, PV.undef, PV.undef, PV.undef, PV.undef, PV.undef, PV.undef, PV.undef, PV.undef, PV.undef, PV.undef, PV.undef, PV.undef, PV.undef, PV.undef, PV.undef, PV.undef, PV.undef, PV.undef, PV.undef, PV.undef, PV.undef, PV.undef, PV.undef, PV.undef, PV.undef, PV.undef, PV.undef, PV.undef, PV.undef, PV.undef, PV.undef, PV.undef, PV.undef, PV.undef, PV.undef, PV.undef, PV.undef, PV.undef, PV.undef, PV.undef, PV.undef, PV.undef, PV.undef, PV.undef, PV.undef, PV.undef, PV.undef, PV.undef, PV.undef])
 (M.bind (noPan (fa 1 v6)) fun t30_3 =>
 M.bind (noPan (M.pure (strip t29_2))) fun t33_4 =>
 M.bind (noPan (ld none true t30_3)) fun t31_5 =>
 M.bind (noPan (ld none false v3)) fun t32_6 =>
 M.bind (noPan (callV P C t32_6 [(strip t33_4)])) fun t34_7 =>
 M.bind (noPan (bs true none [t34_7])) fun t35_8 =>
 M.bind (noPan (ap true 1 8 t31_5 t35_8)) fun t36_9 =>
 M.bind (noPan (fa 1 v6)) fun t37_10 =>
 M.bind (noPan (st 1 true t37_10 t36_9)) fun _ =>
 M.pure [PV.undef, PV.undef, v2, v3, v4, v5, v6, PV.undef, t29_2, PV.undef, PV.undef, PV.undef, PV.undef, PV.undef, PV.undef, PV.undef, PV.undef, PV.undef, PV.undef, PV.undef, PV.undef, PV.undef, PV.undef, PV.undef, v24, v25, v26, t27_0, t28_1, (strip t29_2), t30_3, (strip t31_5), t32_6, t33_4, t34_7, t35_8, (strip t36_9), t37_10, PV.undef, PV.undef, PV.undef, PV.undef, PV.undef, PV.undef, PV.undef, PV.undef, PV.undef, PV.undef, PV.undef, PV.undef, PV.undef, PV.undef, PV.undef, PV.undef, PV.undef, PV.undef, PV.undef, PV.undef, PV.undef, PV.undef, PV.undef, PV.undef, PV.undef, PV.undef, PV.undef, PV.undef, PV.undef, PV.undef, PV.undef, PV.undef, PV.undef, PV.undef, PV.undef, PV.undef, PV.undef, PV.undef, PV.undef, PV.undef, PV.undef, PV.undef, PV.undef, PV.undef, PV.undef, PV.undef, PV.undef, PV.undef, PV.undef, PV.undef, PV.undef, PV.undef, PV.undef, PV.undef, PV.undef, PV.undef, PV.undef, PV.undef, PV.undef, PV.undef, PV.undef, PV.undef, PV.undef]) <|
 M.bind (noPan (fa 1 v6)) fun t30_30 =>
 M.bind (noPan (M.pure (strip t29_2))) fun t33_31 =>
 M.bind (noPan (ld none true t30_30)) fun t31_32 =>
 M.bind (noPan (ld none false v3)) fun t32_33 =>
 M.bind (noPan (callV P C t32_33 [(strip t33_31)])) fun t34_34 =>
 M.bind (noPan (bs true none [t34_34])) fun t35_35 =>
 M.bind (noPan (ap true 1 8 t31_32 t35_35)) fun t36_36 =>
 M.bind (noPan (fa 1 v6)) fun t37_37 =>
 M.bind (noPan (st 1 true t37_37 t36_36)) fun _ =>
 M.bind (bi .add .none v26 (.int .i64 1)) fun t38_39 =>
 u11 v2 v3 v4 v5 v6 v24 v25 (strip t38_39))
 (M.bind (fa 2 v2) fun t39_40 =>
 M.bind (fa 1 t39_40) fun t40_41 =>
 M.bind (ld none false t40_41) fun t41_42 =>
 M.bind (lnL t41_42) fun t42_43 =>
 u0k v2 v4 v5 v6 t41_42 t42_43 (.int .i64 0)) :=
 (u13 P X _ _ _).trans (by kernel_rfl)
theorem u2t (v2 v4 v5 v6 v41 v42 v43 : PV) : u0k v2 v4 v5 v6 v41 v42 v43 =
 M.bind (bi .lss .none v43 v42) fun t44_0 =>
 condM t44_0
 (M.bind (iaS 3 v41 v43) fun t45_1 =>
 M.bind (ld (some 3) true t45_1) fun t46_2 =>
 M.bind (al [(.int .i64 0), (.bool false), (.int .i64 0)]) fun t10_3 =>
 M.bind (st 3 true t10_3 t46_2) fun _ =>
 chk
 (M.bind (noPan (fa 2 v6)) fun t47_16 =>
 M.bind (noPan (fa 1 t47_16)) fun t48_17 =>
 M.bind (noPan (M.pure (strip v5))) fun t50_18 =>
 M.bind (noPan (ld (some 3) false t10_3)) fun t51_19 =>
 M.bind (noPan (ld none true t48_17)) fun t49_20 =>
 M.bind (noPan (callV P C t50_18 [(strip t51_19)])) fun t52_21 =>
 M.bind (noPan (bs true (some 3) [t52_21])) fun t53_22 =>
 M.bind (noPan (ap true 3 24 t49_20 t53_22)) fun t54_23 =>
 M.bind (noPan (fa 2 v6)) fun t55_24 =>
 M.bind (noPan (fa 1 t55_24)) fun t56_25 =>
 M.bind (noPan (st 1 true t56_25 t54_23)) fun _ =>
 M.pure [PV.undef, PV.undef, v2, PV.undef, v4, v5, v6, PV.undef, PV.undef, PV.undef, t10_3, PV.undef, PV.undef, PV.undef, PV.undef, PV.undef, PV.undef, PV.undef, PV.undef, PV.undef, PV.undef, PV.undef, PV.undef, PV.undef, PV.undef, PV.undef, PV.undef, PV.undef, PV.undef, PV.undef, PV.undef, PV.undef, PV.undef, PV.undef, PV.undef, PV.undef, PV.undef, PV.undef, PV.undef, PV.undef, PV.undef, v41, v42, v43, t44_0, t45_1, (strip t46_2), t47_16, t48_17, (strip t49_20), t50_18, t51_19, t52_21, t53_22, (strip t54_23), t55_24, t56_25, PV.undef, PV.undef, PV.undef, PV.undef, PV.undef, PV.undef, PV.undef, PV.undef, PV.undef, PV.undef, PV.undef, PV.undef, PV.undef, PV.undef, PV.undef, PV.undef, PV.undef, PV.undef, PV.undef, PV.undef, PV.undef, PV.undef, PV.undef, PV.undef, PV.undef, PV.undef, PV.undef, PV.undef, PV.undef, PV.undef, PV.undef, PV.undef, PV.undef, PV.undef, PV.undef, PV.undef, PV.undef, PV.undef, PV.undef, PV.undef, PV.undef, PV.undef, PV.undef, PV.undef])
 (M.bind (noPan (fa 2 v6)) fun t47_5 =>
 M.bind (noPan (fa 1 t47_5)) fun t48_6 =>
 M.bind (noPan (M.pure (strip v5))) fun t50_7 =>
 M.bind (noPan (ld none true t48_6)) fun t49_8 =>
 M.bind (noPan (ld (some 3) false t10_3)) fun t51_9 =>
 M.bind (noPan (callV P C t50_7 [(strip t51_9)])) fun t52_10 =>
 M.bind (noPan (bs true (some 3) [t52_10])) fun t53_11 =>
 M.bind (noPan (ap true 3 24 t49_8 t53_11)) fun t54_12 =>
 M.bind (noPan (fa 2 v6)) fun t55_13 =>
 M.bind (noPan (fa 1 t55_13)) fun t56_14 =>
 M.bind (noPan (st 1 true t56_14 t54_12)) fun _ =>
 M.pure [PV.undef, PV.undef, v2, PV.undef, v4, v5, v6, PV.undef, PV.undef, PV.undef, t10_3, PV.undef, PV.undef, PV.undef, PV.undef, PV.undef, PV.undef, PV.undef, PV.undef, PV.undef, PV.undef, PV.undef, PV.undef, PV.undef, PV.undef, PV.undef, PV.undef, PV.undef, PV.undef, PV.undef, PV.undef, PV.undef, PV.undef, PV.undef, PV.undef, PV.undef, PV.undef, PV.undef, PV.undef, PV.undef, PV.undef, v41, v42, v43, t44_0, t45_1, (strip t46_2), t47_5, t48_6, (strip t49_8), t50_7, t51_9, t52_10, t53_11, (strip t54_12), t55_13, t56_14, PV.undef, PV.undef, PV.undef, PV.undef, PV.undef, PV.undef, PV.undef, PV.undef, PV.undef, PV.undef, PV.undef, PV.undef, PV.undef, PV.undef, PV.undef, PV.undef, PV.undef, PV.undef, PV.undef, PV.undef, PV.undef, PV.undef, PV.undef, PV.undef, PV.undef, PV.undef, PV.undef, PV.undef, PV.undef, PV.undef, PV.undef, PV.undef, PV.undef, PV.undef, PV.undef, PV.undef, PV.undef, PV.undef, PV.undef, PV.undef, PV.undef, PV.undef, PV.undef, PV.undef]) <|
 chk
 (M.bind (noPan (fa 2 v6)) fun t47_27 =>
 M.bind (noPan (fa 1 t47_27)) fun t48_28 =>
 M.bind (noPan (M.pure (strip v5))) fun t50_29 =>
 M.bind (noPan (ld (some 3) false t10_3)) fun t51_30 =>
 M.bind (noPan (callV P C t50_29 [(strip t51_30)])) fun t52_31 =>
 M.bind (noPan (bs true (some 3) [t52_31])) fun t53_32 =>
 M.bind (noPan (ld none true t48_28)) fun t49_33 =>
 M.bind (noPan (ap true 3 24 t49_33 t53_32)) fun t54_34 =>
 M.bind (noPan (fa 2 v6)) fun t55_35 =>
 M.bind (noPan (fa 1 t55_35)) fun t56_36 =>
 M.bind (noPan (st 1 true t56_36 t54_34)) fun _ =>
 M.pure [PV.undef, PV.undef, v2, PV.undef, v4, v5, v6, PV.undef, PV.undef, PV.undef, t10_3, PV.undef, PV.undef, PV.undef, PV.undef, PV.undef, PV.undef, PV.undef, PV.undef, PV.undef, PV.undef, PV.undef, PV.undef, PV.undef, PV.undef, PV.undef, PV.undef, PV.undef, PV.undef, PV.undef, PV.undef, PV.undef, PV.undef, PV.undef, PV.undef, PV.undef, PV.undef, PV.undef, PV.undef, PV.undef, PV.undef, v41, v42, v43, t44_0, t45_1, (strip t46_2), t47_27, t48_28, (strip t49_33), t50_29, t51_30, t52_31, t53_32, (strip t54_34), t55_35, t56_36, PV.undef, PV.undef, PV.undef, PV.undef, PV.undef, PV.undef, PV.undef, PV.undef, PV.undef, PV.undef, PV.undef, PV.undef, PV.undef, PV.undef, PV.undef, PV.undef, PV.undef, PV.undef, PV.undef, PV.undef, PV.undef, PV.undef, PV.undef, PV.undef, PV.undef, PV.undef, PV.undef, PV.undef, PV.undef, PV.undef, PV.undef, PV.undef, PV.undef, PV.undef, PV.undef, PV.undef, PV.undef, PV.undef, PV.undef, PV.undef, PV.undef, PV.undef, PV.undef, PV.undef])
 (M.bind (noPan (fa 2 v6)) fun t47_5 =>
 M.bind (noPan (fa 1 t47_5)) fun t48_6 =>
 M.bind (noPan (M.pure (strip v5))) fun t50_7 =>
 M.bind (noPan (ld none true t48_6)) fun t49_8 =>
 M.bind (noPan (ld (some 3) false t10_3)) fun t51_9 =>
 M.bind (noPan (callV P C t50_7 [(strip t51_9)])) fun t52_10 =>
 M.bind (noPan (bs true (some 3) [t52_10])) fun t53_11 =>
 M.bind (noPan (ap true 3 24 t49_8 t53_11)) fun t54_12 =>
 M.bind (noPan (fa 2 v6)) fun t55_13 =>
 M.bind (noPan (fa 1 t55_13)) fun t56_14 =>
 M.bind (noPan (st 1 true t56_14 t54_12)) fun _ =>
 M.pure [PV.undef, PV.undef, v2, PV.undef, v4, v5, v6, PV.undef, PV.undef, PV.undef, t10_3, PV.undef, PV.undef, PV.undef, PV.undef, PV.undef, PV.undef, PV.undef, PV.undef, PV.undef, PV.undef, PV.undef, PV.undef, PV.undef, PV.undef, PV.undef, PV.undef, PV.undef, PV.undef, PV.undef, PV.undef, PV.undef, PV.undef, PV.undef, PV.undef, PV.undef, PV.undef, PV.undef, PV.undef, PV.undef, PV.undef, v41, v42, v43, t44_0, t45_1, (strip t46_2), t47_5, t48_6, (strip t49_8), t50_7, t51_9, t52_10, t53_11, (strip t54_12), t55_13, t56_14, PV.undef, PV.undef, PV.undef, PV.undef, PV.undef, PV.undef, PV.undef, PV.undef, PV.undef, PV.undef, PV.undef, PV.undef, PV.undef, PV.undef, PV.undef, PV.undef, PV.undef, PV.undef, PV.undef, PV.undef, PV.undef, PV.undef, PV.undef, PV.undef, PV.undef, PV.undef, PV.undef, PV.undef, PV.undef, PV.undef, PV.undef, PV.undef, PV.undef, PV.undef, PV.undef, PV.undef, PV.undef, PV.undef, PV.undef, PV.undef, PV.undef, PV.undef, PV.undef, PV.undef]) <|
 M.bind (noPan (fa 2 v6)) fun t47_38 =>
 M.bind (noPan (fa 1 t47_38)) fun t48_39 =>
 M.bind (noPan (M.pure (strip v5))) fun t50_40 =>
 M.bind (noPan (ld none true t48_39)) fun t49_41 =>
 M.bind (noPan (ld (some 3) false t10_3)) fun t51_42 =>
 M.bind (noPan (callV P C t50_40 [(strip t51_42)])) fun t52_43 =>
 M.bind (noPan (bs true (some 3) [t52_43])) fun t53_44 =>
 M.bind (noPan (ap true 3 24 t49_41 t53_44)) fun t54_45 =>
 M.bind (noPan (fa 2 v6)) fun t55_46 =>
 M.bind (noPan (fa 1 t55_46)) fun t56_47 =>
 M.bind (noPan (st 1 true t56_47 t54_45)) fun _ =>
 M.bind (bi .add .none v43 (.int .i64 1)) fun t57_49 =>
 u0k v2 v4 v5 v6 v41 v42 (strip t57_49))
 (M.bind (fa 2 v2) fun t58_50 =>
 M.bind (fa 2 t58_50) fun t59_51 =>
 M.bind (ld none false t59_51) fun t60_52 =>
 M.bind (lnL t60_52) fun t61_53 =>
 u0h v2 v4 v5 v6 t60_52 t61_53 (.int .i64 0)) :=
 (u13 P X _ _ _).trans (by kernel_rfl)
theorem u2p (v2 v4 v5 v6 v60 v61 v62 : PV) : u0h v2 v4 v5 v6 v60 v61 v62 =
 M.bind (bi .lss .none v62 v61) fun t63_0 =>
 condM t63_0
 (M.bind (iaS 3 v60 v62) fun t64_1 =>
 M.bind (ld (some 3) true t64_1) fun t65_2 =>
 M.bind (al [(.int .i64 0), (.bool false), (.int .i64 0)]) fun t12_3 =>
 M.bind (st 3 true t12_3 t65_2) fun _ =>
 chk
 (M.bind (noPan (fa 2 v6)) fun t66_16 =>
 M.bind (noPan (fa 2 t66_16)) fun t67_17 =>
 M.bind (noPan (M.pure (strip v5))) fun t69_18 =>
 M.bind (noPan (ld (some 3) false t12_3)) fun t70_19 =>
 M.bind (noPan (ld none true t67_17)) fun t68_20 =>
 M.bind (noPan (callV P C t69_18 [(strip t70_19)])) fun t71_21 =>
 M.bind (noPan (bs true (some 3) [t71_21])) fun t72_22 =>
 M.bind (noPan (ap true 3 24 t68_20 t72_22)) fun t73_23 =>
 M.bind (noPan (fa 2 v6)) fun t74_24 =>
 M.bind (noPan (fa 2 t74_24)) fun t75_25 =>
 M.bind (noPan (st 1 true t75_25 t73_23)) fun _ =>
 M.pure [PV.undef, PV.undef, v2, PV.undef, v4, v5, v6, PV.undef, PV.undef, PV.undef, PV.undef, PV.undef, t12_3, PV.undef, PV.undef, PV.undef, PV.undef, PV.undef, PV.undef, PV.undef, PV.undef, PV.undef, PV.undef, PV.undef, PV.undef, PV.undef, PV.undef, PV.undef, PV.undef, PV.undef, PV.undef, PV.undef, PV.undef, PV.undef, PV.undef, PV.undef, PV.undef, PV.undef, PV.undef, PV.undef, PV.undef, PV.undef, PV.undef, PV.undef, PV.undef, PV.undef, PV.undef, PV.undef, PV.undef, PV.undef, PV.undef, PV.undef, PV.undef, PV.undef, PV.undef, PV.undef, PV.undef, PV.undef, PV.undef, PV.undef, v60, v61, v62, t63_0, t64_1, (strip t65_2), t66_16, t67_17, (strip t68_20), t69_18, t70_19, t71_21, t72_22, (strip t73_23), t74_24, t75_25, PV.undef, PV.undef, PV.undef, PV.undef, PV.undef, PV.undef, PV.undef, PV.undef, PV.undef, PV.undef, PV.undef, PV.undef, PV.undef, PV.undef, PV.undef, PV.undef, PV.undef, PV.undef, PV.undef, PV.undef, PV.undef, PV.undef, PV.undef, PV.undef, PV.undef])
 (M.bind (noPan (fa 2 v6)) fun t66_5 =>
 M.bind (noPan (fa 2 t66_5)) fun t67_6 =>
 M.bind (noPan (M.pure (strip v5))) fun t69_7 =>
 M.bind (noPan (ld none true t67_6)) fun t68_8 =>
 M.bind (noPan (ld (some 3) false t12_3)) fun t70_9 =>
 M.bind (noPan (callV P C t69_7 [(strip t70_9)])) fun t71_10 =>
 M.bind (noPan (bs true (some 3) [t71_10])) fun t72_11 =>
 M.bind (noPan (ap true 3 24 t68_8 t72_11)) fun t73_12 =>
 M.bind (noPan (fa 2 v6)) fun t74_13 =>
 M.bind (noPan (fa 2 t74_13)) fun t75_14 =>
 M.bind (noPan (st 1 true t75_14 t73_12)) fun _ =>
 M.pure [PV.undef, PV.undef, v2, PV.undef, v4, v5, v6, PV.undef, PV.undef, PV.undef, PV.undef, PV.undef, t12_3, PV.undef, PV.undef, PV.undef, PV.undef, PV.undef, PV.undef, PV.undef, PV.undef, PV.undef, PV.undef, PV.undef, PV.undef, PV.undef, PV.undef, PV.undef, PV.undef, PV.undef, PV.undef, PV.undef, PV.undef, PV.undef, PV.undef, PV.undef, PV.undef, PV.undef, PV.undef, PV.undef, PV.undef, PV.undef, PV.undef, PV.undef, PV.undef, PV.undef, PV.undef, PV.undef, PV.undef, PV.undef, PV.undef, PV.undef, PV.undef, PV.undef, PV.undef, PV.undef, PV.undef, PV.undef, PV.undef, PV.undef, v60, v61, v62, t63_0, t64_1, (strip t65_2), t66_5, t67_6, (strip t68_8), t69_7, t70_9, t71_10, t72_11, (strip t73_12), t74_13, t75_14, PV.undef, PV.undef, PV.undef, PV.undef, PV.undef, PV.undef, PV.undef, PV.undef, PV.undef, PV.undef, PV.undef, PV.undef, PV.undef, PV.undef, PV.undef, PV.undef, PV.undef, PV.undef, PV.undef, PV.undef, PV.undef, PV.undef, PV.undef, PV.undef, PV.undef]) <|
 chk
 (M.bind (noPan (fa 2 v6)) fun t66_27 =>
 M.bind (noPan (fa 2 t66_27)) fun t67_28 =>
 M.bind (noPan (M.pure (strip v5))) fun t69_29 =>
 M.bind (noPan (ld (some 3) false t12_3)) fun t70_30 =>
 M.bind (noPan (callV P C t69_29 [(strip t70_30)])) fun t71_31 =>
 M.bind (noPan (bs true (some 3) [t71_31])) fun t72_32 =>
 M.bind (noPan (ld none true t67_28)) fun t68_33 =>
 M.bind (noPan (ap true 3 24 t68_33 t72_32)) fun t73_34 =>
 M.bind (noPan (fa 2 v6)) fun t74_35 =>
 M.bind (noPan (fa 2 t74_35)) fun t75_36 =>
 M.bind (noPan (st 1 true t75_36 t73_34)) fun _ =>
 M.pure [PV.undef, PV.undef, v2, PV.undef, v4, v5, v6, PV.undef, PV.undef, PV.undef, PV.undef, PV.undef, t12_3, PV.undef, PV.undef, PV.undef, PV.undef, PV.undef, PV.undef, PV.undef, PV.undef, PV.undef, PV.undef, PV.undef, PV.undef, PV.undef, PV.undef, PV.undef, PV.undef, PV.undef, PV.undef, PV.undef, PV.undef, PV.undef, PV.undef, PV.undef, PV.undef, PV.undef, PV.undef, PV.undef, PV.undef, PV.undef, PV.undef, PV.undef, PV.undef, PV.undef, PV.undef, PV.undef, PV.undef, PV.undef, PV.undef, PV.undef, PV.undef, PV.undef, PV.undef, PV.undef, PV.undef, PV.undef, PV.undef, PV.undef, v60, v61, v62, t63_0, t64_1, (strip t65_2), t66_27, t67_28, (strip t68_33), t69_29, t70_30, t71_31, t72_32, (strip t73_34), t74_35, t75_36, PV.undef, PV.undef, PV.undef, PV.undef, PV.undef, PV.undef, PV.undef, PV.undef, PV.undef, PV.undef, PV.undef, PV.undef, PV.undef, PV.undef, PV.undef, PV.undef, PV.undef, PV.undef, PV.undef, PV.undef, PV.undef, PV.undef, PV.undef, PV.undef, PV.undef])
 (M.bind (noPan (fa 2 v6)) fun t66_5 =>
 M.bind (noPan (fa 2 t66_5)) fun t67_6 =>
 M.bind (noPan (M.pure (strip v5))) fun t69_7 =>
 M.bind (noPan (ld none true t67_6)) fun t68_8 =>
 M.bind (noPan (ld (some 3) false t12_3)) fun t70_9 =>
 M.bind (noPan (callV P C t69_7 [(strip t70_9)])) fun t71_10 =>
 M.bind (noPan (bs true (some 3) [t71_10])) fun t72_11 =>
 M.bind (noPan (ap true 3 24 t68_8 t72_11)) fun t73_12 =>
 M.bind (noPan (fa 2 v6)) fun t74_13 =>
 M.bind (noPan (fa 2 t74_13)) fun t75_14 =>
 M.bind (noPan (st 1 true t75_14 t73_12)) fun _ =>
 M.pure [PV.undef, PV.undef, v2, PV.undef, v4, v5, v6, PV.undef, PV.undef, PV.undef, PV.undef, PV.undef, t12_3, PV.undef, PV.undef, PV.undef, PV.undef, PV.undef, PV.undef, PV.undef, PV.undef, PV.undef, PV.undef, PV.undef, PV.undef, PV.undef, PV.undef, PV.undef, PV.undef, PV.undef, PV.undef, PV.undef, PV.undef, PV.undef, PV.undef, PV.undef, PV.undef, PV.undef, PV.undef, PV.undef, PV.undef, PV.undef, PV.undef, PV.undef, PV.undef, PV.undef, PV.undef, PV.undef, PV.undef, PV.undef, PV.undef, PV.undef, PV.undef, PV.undef, PV.undef, PV.undef, PV.undef, PV.undef, PV.undef, PV.undef, v60, v61, v62, t63_0, t64_1, (strip t65_2), t66_5, t67_6, (strip t68_8), t69_7, t70_9, t71_10, t72_11, (strip t73_12), t74_13, t75_14, PV.undef, PV.undef, PV.undef, PV.undef, PV.undef, PV.undef, PV.undef, PV.undef, PV.undef, PV.undef, PV.undef, PV.undef, PV.undef, PV.undef, PV.undef, PV.undef, PV.undef, PV.undef, PV.undef, PV.undef, PV.undef, PV.undef, PV.undef, PV.undef, PV.undef]) <|
 M.bind (noPan (fa 2 v6)) fun t66_38 =>
 M.bind (noPan (fa 2 t66_38)) fun t67_39 =>
 M.bind (noPan (M.pure (strip v5))) fun t69_40 =>
 M.bind (noPan (ld none true t67_39)) fun t68_41 =>
 M.bind (noPan (ld (some 3) false t12_3)) fun t70_42 =>
 M.bind (noPan (callV P C t69_40 [(strip t70_42)])) fun t71_43 =>
 M.bind (noPan (bs true (some 3) [t71_43])) fun t72_44 =>
 M.bind (noPan (ap true 3 24 t68_41 t72_44)) fun t73_45 =>
 M.bind (noPan (fa 2 v6)) fun t74_46 =>
 M.bind (noPan (fa 2 t74_46)) fun t75_47 =>
 M.bind (noPan (st 1 true t75_47 t73_45)) fun _ =>
 M.bind (bi .add .none v62 (.int .i64 1)) fun t76_49 =>
 u0h v2 v4 v5 v6 v60 v61 (strip t76_49))
 (M.bind (fa 2 v2) fun t77_50 =>
 M.bind (fa 3 t77_50) fun t78_51 =>
 M.bind (ld none false t78_51) fun t79_52 =>
 M.bind (lnL t79_52) fun t80_53 =>
 u0f v4 v5 v6 t79_52 t80_53 (.int .i64 0)) :=
 (u13 P X _ _ _).trans (by kernel_rfl)
theorem u2g (v4 v5 v6 v79 v80 v81 : PV) : u0f v4 v5 v6 v79 v80 v81 =
 M.bind (bi .lss .none v81 v80) fun t82_0 =>
 condM t82_0
 (M.bind (iaS 4 v79 v81) fun t83_1 =>
 M.bind (ld (some 4) true t83_1) fun t84_2 =>
 M.bind (al [(.int .i64 0), (.bool false), (.int .i64 0), (.bool false)]) fun t14_3 =>
 M.bind (st 4 true t14_3 t84_2) fun _ =>
 chk
 (M.bind (noPan (fa 2 v6)) fun t85_20 =>
 M.bind (noPan (fa 3 t85_20)) fun t86_21 =>
 M.bind (noPan (M.pure (strip v5))) fun t88_22 =>
 M.bind (noPan (fa 0 t14_3)) fun t89_23 =>
 M.bind (noPan (fa 3 t14_3)) fun t92_24 =>
 M.bind (noPan (ld none true t86_21)) fun t87_25 =>
 M.bind (noPan (ld (some 3) false t89_23)) fun t90_26 =>
 M.bind (noPan (ld none false t92_24)) fun t93_27 =>
 M.bind (noPan (callV P C t88_22 [(strip t90_26)])) fun t91_28 =>
 M.bind (noPan (bd [(.int .i64 0), (.bool false), (.int .i64 0), (.bool false)] [(0, 3, t91_28), (3, 1, t93_27)])) fun t94_29 =>
 M.bind (noPan (bs true (some 4) [t94_29])) fun t95_30 =>
 M.bind (noPan (ap true 4 32 t87_25 t95_30)) fun t96_31 =>
 M.bind (noPan (fa 2 v6)) fun t97_32 =>
 M.bind (noPan (fa 3 t97_32)) fun t98_33 =>
 M.bind (noPan (st 1 true t98_33 t96_31)) fun _ =>
 M.pure [PV.undef, PV.undef, PV.undef, PV.undef, v4, v5, v6, PV.undef, PV.undef, PV.undef, PV.undef, PV.undef, PV.undef, PV.undef, t14_3, PV.undef, PV.undef, PV.undef, PV.undef, PV.undef, PV.undef, PV.undef, PV.undef, PV.undef, PV.undef, PV.undef, PV.undef, PV.undef, PV.undef, PV.undef, PV.undef, PV.undef, PV.undef, PV.undef, PV.undef, PV.undef, PV.undef, PV.undef, PV.undef, PV.undef, PV.undef, PV.undef, PV.undef, PV.undef, PV.undef, PV.undef, PV.undef, PV.undef, PV.undef, PV.undef, PV.undef, PV.undef, PV.undef, PV.undef, PV.undef, PV.undef, PV.undef, PV.undef, PV.undef, PV.undef, PV.undef, PV.undef, PV.undef, PV.undef, PV.undef, PV.undef, PV.undef, PV.undef, PV.undef, PV.undef, PV.undef, PV.undef, PV.undef, PV.undef, PV.undef, PV.undef, PV.undef, PV.undef, PV.undef, v79, v80, v81, t82_0, t83_1, (strip t84_2), t85_20, t86_21, (strip t87_25), t88_22, t89_23, t90_26, t91_28, t92_24, t93_27, t94_29, t95_30, (strip t96_31), t97_32, t98_33, PV.undef, PV.undef])
 (M.bind (noPan (fa 2 v6)) fun t85_5 =>
 M.bind (noPan (fa 3 t85_5)) fun t86_6 =>
 M.bind (noPan (M.pure (strip v5))) fun t88_7 =>
 M.bind (noPan (fa 0 t14_3)) fun t89_8 =>
 M.bind (noPan (fa 3 t14_3)) fun t92_9 =>
 M.bind (noPan (ld none true t86_6)) fun t87_10 =>
 M.bind (noPan (ld (some 3) false t89_8)) fun t90_11 =>
 M.bind (noPan (callV P C t88_7 [(strip t90_11)])) fun t91_12 =>
 M.bind (noPan (ld none false t92_9)) fun t93_13 =>
 M.bind (noPan (bd [(.int .i64 0), (.bool false), (.int .i64 0), (.bool false)] [(0, 3, t91_12), (3, 1, t93_13)])) fun t94_14 =>
 M.bind (noPan (bs true (some 4) [t94_14])) fun t95_15 =>
 M.bind (noPan (ap true 4 32 t87_10 t95_15)) fun t96_16 =>
 M.bind (noPan (fa 2 v6)) fun t97_17 =>
 M.bind (noPan (fa 3 t97_17)) fun t98_18 =>
 M.bind (noPan (st 1 true t98_18 t96_16)) fun _ =>
 M.pure [PV.undef, PV.undef, PV.undef, PV.undef, v4, v5, v6, PV.undef, PV.undef, PV.undef, PV.undef, PV.undef, PV.undef, PV.undef, t14_3, PV.undef, PV.undef, PV.undef, PV.undef, PV.undef, PV.undef, PV.undef, PV.undef, PV.undef, PV.undef, PV.undef, PV.undef, PV.undef, PV.undef, PV.undef, PV.undef, PV.undef, PV.undef, PV.undef, PV.undef, PV.undef, PV.undef, PV.undef, PV.undef, PV.undef, PV.undef, PV.undef, PV.undef, PV.undef, PV.undef, PV.undef, PV.undef, PV.undef, PV.undef, PV.undef, PV.undef, PV.undef, PV.undef, PV.undef, PV.undef, PV.undef, PV.undef, PV.undef, PV.undef, PV.undef, PV.undef, PV.undef, PV.undef, PV.undef, PV.undef, PV.undef, PV.undef, PV.undef, PV.undef, PV.undef, PV.undef, PV.undef, PV.undef, PV.undef, PV.undef, PV.undef, PV.undef, PV.undef, PV.undef, v79, v80, v81, t82_0, t83_1, (strip t84_2), t85_5, t86_6, (strip t87_10), t88_7, t89_8, t90_11, t91_12, t92_9, t93_13, t94_14, t95_15, (strip t96_16), t97_17, t98_18, PV.undef, PV.undef]) <|
 chk
 (M.bind (noPan (fa 2 v6)) fun t85_35 =>
 M.bind (noPan (fa 3 t85_35)) fun t86_36 =>
 M.bind (noPan (M.pure (strip v5))) fun t88_37 =>
 M.bind (noPan (fa 0 t14_3)) fun t89_38 =>
 M.bind (noPan (fa 3 t14_3)) fun t92_39 =>
 M.bind (noPan (ld (some 3) false t89_38)) fun t90_40 =>
 M.bind (noPan (ld none true t86_36)) fun t87_41 =>
 M.bind (noPan (callV P C t88_37 [(strip t90_40)])) fun t91_42 =>
 M.bind (noPan (ld none false t92_39)) fun t93_43 =>
 M.bind (noPan (bd [(.int .i64 0), (.bool false), (.int .i64 0), (.bool false)] [(0, 3, t91_42), (3, 1, t93_43)])) fun t94_44 =>
 M.bind (noPan (bs true (some 4) [t94_44])) fun t95_45 =>
 M.bind (noPan (ap true 4 32 t87_41 t95_45)) fun t96_46 =>
 M.bind (noPan (fa 2 v6)) fun t97_47 =>
 M.bind (noPan (fa 3 t97_47)) fun t98_48 =>
 M.bind (noPan (st 1 true t98_48 t96_46)) fun _ =>
 M.pure [PV.undef, PV.undef, PV.undef, PV.undef, v4, v5, v6, PV.undef, PV.undef, PV.undef, PV.undef, PV.undef, PV.undef, PV.undef, t14_3, PV.undef, PV.undef, PV.undef, PV.undef, PV.undef, PV.undef, PV.undef, PV.undef, PV.undef, PV.undef, PV.undef, PV.undef, PV.undef, PV.undef, PV.undef, PV.undef, PV.undef, PV.undef, PV.undef, PV.undef, PV.undef, PV.undef, PV.undef, PV.undef, PV.undef, PV.undef, PV.undef, PV.undef, PV.undef, PV.undef, PV.undef, PV.undef, PV.undef, PV.undef, PV.undef, PV.undef, PV.undef, PV.undef, PV.undef, PV.undef, PV.undef, PV.undef, PV.undef, PV.undef, PV.undef, PV.undef, PV.undef, PV.undef, PV.undef, PV.undef, PV.undef, PV.undef, PV.undef, PV.undef, PV.undef, PV.undef, PV.undef, PV.undef, PV.undef, PV.undef, PV.undef, PV.undef, PV.undef, PV.undef, v79, v80, v81, t82_0, t83_1, (strip t84_2), t85_35, t86_36, (strip t87_41), t88_37, t89_38, t90_40, t91_42, t92_39, t93_43, t94_44, t95_45, (strip t96_46), t97_47, t98_48, PV.undef, PV.undef])
 (M.bind (noPan (fa 2 v6)) fun t85_5 =>
 M.bind (noPan (fa 3 t85_5)) fun t86_6 =>
 M.bind (noPan (M.pure (strip v5))) fun t88_7 =>
 M.bind (noPan (fa 0 t14_3)) fun t89_8 =>
 M.bind (noPan (fa 3 t14_3)) fun t92_9 =>
 M.bind (noPan (ld none true t86_6)) fun t87_10 =>
 M.bind (noPan (ld (some 3) false t89_8)) fun t90_11 =>
 M.bind (noPan (callV P C t88_7 [(strip t90_11)])) fun t91_12 =>
 M.bind (noPan (ld none false t92_9)) fun t93_13 =>
 M.bind (noPan (bd [(.int .i64 0), (.bool false), (.int .i64 0), (.bool false)] [(0, 3, t91_12), (3, 1, t93_13)])) fun t94_14 =>
 M.bind (noPan (bs true (some 4) [t94_14])) fun t95_15 =>
 M.bind (noPan (ap true 4 32 t87_10 t95_15)) fun t96_16 =>
 M.bind (noPan (fa 2 v6)) fun t97_17 =>
 M.bind (noPan (fa 3 t97_17)) fun t98_18 =>
 M.bind (noPan (st 1 true t98_18 t96_16)) fun _ =>
 M.pure [PV.undef, PV.undef, PV.undef, PV.undef, v4, v5, v6, PV.undef, PV.undef, PV.undef, PV.undef, PV.undef, PV.undef, PV.undef, t14_3, PV.undef, PV.undef, PV.undef, PV.undef, PV.undef, PV.undef, PV.undef, PV.undef, PV.undef, PV.undef, PV.undef, PV.undef, PV.undef, PV.undef, PV.undef, PV.undef, PV.undef, PV.undef, PV.undef, PV.undef, PV.undef, PV.undef, PV.undef, PV.undef, PV.undef, PV.undef, PV.undef, PV.undef, PV.undef, PV.undef, PV.undef, PV.undef, PV.undef, PV.undef, PV.undef, PV.undef, PV.undef, PV.undef, PV.undef, PV.undef, PV.undef, PV.undef, PV.undef, PV.undef, PV.undef, PV.undef, PV.undef, PV.undef, PV.undef, PV.undef, PV.undef, PV.undef, PV.undef, PV.undef, PV.undef, PV.undef, PV.undef, PV.undef, PV.undef, PV.undef, PV.undef, PV.undef, PV.undef, PV.undef, v79, v80, v81, t82_0, t83_1, (strip t84_2), t85_5, t86_6, (strip t87_10), t88_7, t89_8, t90_11, t91_12, t92_9, t93_13, t94_14, t95_15, (strip t96_16), t97_17, t98_18, PV.undef, PV.undef]) <|
 chk
 (M.bind (noPan (fa 2 v6)) fun t85_50 =>
 M.bind (noPan (fa 3 t85_50)) fun t86_51 =>
 M.bind (noPan (M.pure (strip v5))) fun t88_52 =>
 M.bind (noPan (fa 0 t14_3)) fun t89_53 =>
 M.bind (noPan (fa 3 t14_3)) fun t92_54 =>
 M.bind (noPan (ld (some 3) false t89_53)) fun t90_55 =>
 M.bind (noPan (ld none true t86_51)) fun t87_56 =>
 M.bind (noPan (ld none false t92_54)) fun t93_57 =>
 M.bind (noPan (callV P C t88_52 [(strip t90_55)])) fun t91_58 =>
 M.bind (noPan (bd [(.int .i64 0), (.bool false), (.int .i64 0), (.bool false)] [(0, 3, t91_58), (3, 1, t93_57)])) fun t94_59 =>
 M.bind (noPan (bs true (some 4) [t94_59])) fun t95_60 =>
 M.bind (noPan (ap true 4 32 t87_56 t95_60)) fun t96_61 =>
 M.bind (noPan (fa 2 v6)) fun t97_62 =>
 M.bind (noPan (fa 3 t97_62)) fun t98_63 =>
 M.bind (noPan (st 1 true t98_63 t96_61)) fun _ =>
 M.pure [PV.undef, PV.undef, PV.undef, PV.undef, v4, v5, v6, PV.undef, PV.undef, PV.undef, PV.undef, PV.undef, PV.undef, PV.undef, t14_3, PV.undef, PV.undef, PV.undef, PV.undef, PV.undef, PV.undef, PV.undef, PV.undef, PV.undef, PV.undef, PV.undef, PV.undef, PV.undef, PV.undef, PV.undef, PV.undef, PV.undef, PV.undef, PV.undef, PV.undef, PV.undef, PV.undef, PV.undef, PV.undef, PV.undef, PV.undef, PV.undef, PV.undef, PV.undef, PV.undef, PV.undef, PV.undef, PV.undef, PV.undef, PV.undef, PV.undef, PV.undef, PV.undef, PV.undef, PV.undef, PV.undef, PV.undef, PV.undef, PV.undef, PV.undef, PV.undef, PV.undef, PV.undef, PV.undef, PV.undef, PV.undef, PV.undef, PV.undef, PV.undef, PV.undef, PV.undef, PV.undef, PV.undef, PV.undef, PV.undef, PV.undef, PV.undef, PV.undef, PV.undef, v79, v80, v81, t82_0, t83_1, (strip t84_2), t85_50, t86_51, (strip t87_56), t88_52, t89_53, t90_55, t91_58, t92_54, t93_57, t94_59, t95_60, (strip t96_61), t97_62, t98_63, PV.undef, PV.undef])
 (M.bind (noPan (fa 2 v6)) fun t85_5 =>
 M.bind (noPan (fa 3 t85_5)) fun t86_6 =>
 M.bind (noPan (M.pure (strip v5))) fun t88_7 =>
 M.bind (noPan (fa 0 t14_3)) fun t89_8 =>
 M.bind (noPan (fa 3 t14_3)) fun t92_9 =>
 M.bind (noPan (ld none true t86_6)) fun t87_10 =>
 M.bind (noPan (ld (some 3) false t89_8)) fun t90_11 =>
 M.bind (noPan (callV P C t88_7 [(strip t90_11)])) fun t91_12 =>
 M.bind (noPan (ld none false t92_9)) fun t93_13 =>
 M.bind (noPan (bd [(.int .i64 0), (.bool false), (.int .i64 0), (.bool false)] [(0, 3, t91_12), (3, 1, t93_13)])) fun t94_14 =>
 M.bind (noPan (bs true (some 4) [t94_14])) fun t95_15 =>
 M.bind (noPan (ap true 4 32 t87_10 t95_15)) fun t96_16 =>
 M.bind (noPan (fa 2 v6)) fun t97_17 =>
 M.bind (noPan (fa 3 t97_17)) fun t98_18 =>
 M.bind (noPan (st 1 true t98_18 t96_16)) fun _ =>
 M.pure [PV.undef, PV.undef, PV.undef, PV.undef, v4, v5, v6, PV.undef, PV.undef, PV.undef, PV.undef, PV.undef, PV.undef, PV.undef, t14_3, PV.undef, PV.undef, PV.undef, PV.undef, PV.undef, PV.undef, PV.undef, PV.undef, PV.undef, PV.undef, PV.undef, PV.undef, PV.undef, PV.undef, PV.undef, PV.undef, PV.undef, PV.undef, PV.undef, PV.undef, PV.undef, PV.undef, PV.undef, PV.undef, PV.undef, PV.undef, PV.undef, PV.undef, PV.undef, PV.undef, PV.undef, PV.undef, PV.undef, PV.undef, PV.undef, PV.undef, PV.undef, PV.undef, PV.undef, PV.undef, PV.undef, PV.undef, PV.undef, PV.undef, PV.undef, PV.undef, PV.undef, PV.undef, PV.undef, PV.undef, PV.undef, PV.undef, PV.undef, PV.undef, PV.undef, PV.undef, PV.undef, PV.undef, PV.undef, PV.undef, PV.undef, PV.undef, PV.undef, PV.undef, v79, v80, v81, t82_0, t83_1, (strip t84_2), t85_5, t86_6, (strip t87_10), t88_7, t89_8, t90_11, t91_12, t92_9, t93_13, t94_14, t95_15, (strip t96_16), t97_17, t98_18, PV.undef, PV.undef]) <|
 chk
 (M.bind (noPan (fa 2 v6)) fun t85_65 =>
 M.bind (noPan (fa 3 t85_65)) fun t86_66 =>
 M.bind (noPan (M.pure (strip v5))) fun t88_67 =>
 M.bind (noPan (fa 0 t14_3)) fun t89_68 =>
 M.bind (noPan (fa 3 t14_3)) fun t92_69 =>
 M.bind (noPan (ld (some 3) false t89_68)) fun t90_70 =>
 M.bind (noPan (callV P C t88_67 [(strip t90_70)])) fun t91_71 =>
 M.bind (noPan (ld none true t86_66)) fun t87_72 =>
 M.bind (noPan (ld none false t92_69)) fun t93_73 =>
 M.bind (noPan (bd [(.int .i64 0), (.bool false), (.int .i64 0), (.bool false)] [(0, 3, t91_71), (3, 1, t93_73)])) fun t94_74 =>
 M.bind (noPan (bs true (some 4) [t94_74])) fun t95_75 =>
 M.bind (noPan (ap true 4 32 t87_72 t95_75)) fun t96_76 =>
 M.bind (noPan (fa 2 v6)) fun t97_77 =>
 M.bind (noPan (fa 3 t97_77)) fun t98_78 =>
 M.bind (noPan (st 1 true t98_78 t96_76)) fun _ =>
 M.pure [PV.undef, PV.undef, PV.undef, PV.undef, v4, v5, v6, PV.undef, PV.undef, PV.undef, PV.undef, PV.undef, PV.undef, PV.undef, t14_3, PV.undef, PV.undef, PV.undef, PV.undef, PV.undef, PV.undef, PV.undef, PV.undef, PV.undef, PV.undef, PV.undef, PV.undef, PV.undef, PV.undef, PV.undef, PV.undef, PV.undef, PV.undef, PV.undef, PV.undef, PV.undef, PV.undef, PV.undef, PV.undef, PV.undef, PV.undef, PV.undef, PV.undef, PV.undef, PV.undef, PV.undef, PV.undef, PV.undef, PV.undef, PV.undef, PV.undef, PV.undef, PV.undef, PV.undef, PV.undef, PV.undef, PV.undef, PV.undef, PV.undef, PV.undef, PV.undef, PV.undef, PV.undef, PV.undef, PV.undef, PV.undef, PV.undef, PV.undef, PV.undef, PV.undef, PV.undef, PV.undef, PV.undef, PV.undef, PV.undef, PV.undef, PV.undef, PV.undef, PV.undef, v79, v80, v81, t82_0, t83_1, (strip t84_2), t85_65, t86_66, (strip t87_72), t88_67, t89_68, t90_70, t91_71, t92_69, t93_73, t94_74, t95_75, (strip t96_76), t97_77, t98_78, PV.undef, PV.undef])
 (M.bind (noPan (fa 2 v6)) fun t85_5 =>
 M.bind (noPan (fa 3 t85_5)) fun t86_6 =>
 M.bind (noPan (M.pure (strip v5))) fun t88_7 =>
 M.bind (noPan (fa 0 t14_3)) fun t89_8 =>
 M.bind (noPan (fa 3 t14_3)) fun t92_9 =>
 M.bind (noPan (ld none true t86_6)) fun t87_10 =>
 M.bind (noPan (ld (some 3) false t89_8)) fun t90_11 =>
 M.bind (noPan (callV P C t88_7 [(strip t90_11)])) fun t91_12 =>
 M.bind (noPan (ld none false t92_9)) fun t93_13 =>
 M.bind (noPan (bd [(.int .i64 0), (.bool false), (.int .i64 0), (.bool false)] [(0, 3, t91_12), (3, 1, t93_13)])) fun t94_14 =>
 M.bind (noPan (bs true (some 4) [t94_14])) fun t95_15 =>
 M.bind (noPan (ap true 4 32 t87_10 t95_15)) fun t96_16 =>
 M.bind (noPan (fa 2 v6)) fun t97_17 =>
 M.bind (noPan (fa 3 t97_17)) fun t98_18 =>
 M.bind (noPan (st 1 true t98_18 t96_16)) fun _ =>
 M.pure [PV.undef, PV.undef, PV.undef, PV.undef, v4, v5, v6, PV.undef, PV.undef, PV.undef, PV.undef, PV.undef, PV.undef, PV.undef, t14_3, PV.undef, PV.undef, PV.undef, PV.undef, PV.undef, PV.undef, PV.undef, PV.undef, PV.undef, PV.undef, PV.undef, PV.undef, PV.undef, PV.undef, PV.undef, PV.undef, PV.undef, PV.undef, PV.undef, PV.undef, PV.undef, PV.undef, PV.undef, PV.undef, PV.undef, PV.undef, PV.undef, PV.undef, PV.undef, PV.undef, PV.undef, PV.undef, PV.undef, PV.undef, PV.undef, PV.undef, PV.undef, PV.undef, PV.undef, PV.undef, PV.undef, PV.undef, PV.undef, PV.undef, PV.undef, PV.undef, PV.undef, PV.undef, PV.undef, PV.undef, PV.undef, PV.undef, PV.undef, PV.undef, PV.undef, PV.undef, PV.undef, PV.undef, PV.undef, PV.undef, PV.undef, PV.undef, PV.undef, PV.undef, v79, v80, v81, t82_0, t83_1, (strip t84_2), t85_5, t86_6, (strip t87_10), t88_7, t89_8, t90_11, t91_12, t92_9, t93_13, t94_14, t95_15, (strip t96_16), t97_17, t98_18, PV.undef, PV.undef]) <|
 chk
 (M.bind (noPan (fa 2 v6)) fun t85_80 =>
 M.bind (noPan (fa 3 t85_80)) fun t86_81 =>
 M.bind (noPan (M.pure (strip v5))) fun t88_82 =>
 M.bind (noPan (fa 0 t14_3)) fun t89_83 =>
 M.bind (noPan (fa 3 t14_3)) fun t92_84 =>
 M.bind (noPan (ld (some 3) false t89_83)) fun t90_85 =>
 M.bind (noPan (callV P C t88_82 [(strip t90_85)])) fun t91_86 =>
 M.bind (noPan (ld none false t92_84)) fun t93_87 =>
 M.bind (noPan (bd [(.int .i64 0), (.bool false), (.int .i64 0), (.bool false)] [(0, 3, t91_86), (3, 1, t93_87)])) fun t94_88 =>
 M.bind (noPan (bs true (some 4) [t94_88])) fun t95_89 =>
 M.bind (noPan (ld none true t86_81)) fun t87_90 =>
 M.bind (noPan (ap true 4 32 t87_90 t95_89)) fun t96_91 =>
 M.bind (noPan (fa 2 v6)) fun t97_92 =>
 M.bind (noPan (fa 3 t97_92)) fun t98_93 =>
 M.bind (noPan (st 1 true t98_93 t96_91)) fun _ =>
 M.pure [PV.undef, PV.undef, PV.undef, PV.undef, v4, v5, v6, PV.undef, PV.undef, PV.undef, PV.undef, PV.undef, PV.undef, PV.undef, t14_3, PV.undef, PV.undef, PV.undef, PV.undef, PV.undef, PV.undef, PV.undef, PV.undef, PV.undef, PV.undef, PV.undef, PV.undef, PV.undef, PV.undef, PV.undef, PV.undef, PV.undef, PV.undef, PV.undef, PV.undef, PV.undef, PV.undef, PV.undef, PV.undef, PV.undef, PV.undef, PV.undef, PV.undef, PV.undef, PV.undef, PV.undef, PV.undef, PV.undef, PV.undef, PV.undef, PV.undef, PV.undef, PV.undef, PV.undef, PV.undef, PV.undef, PV.undef, PV.undef, PV.undef, PV.undef, PV.undef, PV.undef, PV.undef, PV.undef, PV.undef, PV.undef, PV.undef, PV.undef, PV.undef, PV.undef, PV.undef, PV.undef, PV.undef, PV.undef, PV.undef, PV.undef, PV.undef, PV.undef, PV.undef, v79, v80, v81, t82_0, t83_1, (strip t84_2), t85_80, t86_81, (strip t87_90), t88_82, t89_83, t90_85, t91_86, t92_84, t93_87, t94_88, t95_89, (strip t96_91), t97_92, t98_93, PV.undef, PV.undef])
 (M.bind (noPan (fa 2 v6)) fun t85_5 =>
 M.bind (noPan (fa 3 t85_5)) fun t86_6 =>
 M.bind (noPan (M.pure (strip v5))) fun t88_7 =>
 M.bind (noPan (fa 0 t14_3)) fun t89_8 =>
 M.bind (noPan (fa 3 t14_3)) fun t92_9 =>
 M.bind (noPan (ld none true t86_6)) fun t87_10 =>
 M.bind (noPan (ld (some 3) false t89_8)) fun t90_11 =>
 M.bind (noPan (callV P C t88_7 [(strip t90_11)])) fun t91_12 =>
 M.bind (noPan (ld none false t92_9)) fun t93_13 =>
 M.bind (noPan (bd [(.int .i64 0), (.bool false), (.int .i64 0), (.bool false)] [(0, 3, t91_12), (3, 1, t93_13)])) fun t94_14 =>
 M.bind (noPan (bs true (some 4) [t94_14])) fun t95_15 =>
 M.bind (noPan (ap true 4 32 t87_10 t95_15)) fun t96_16 =>
 M.bind (noPan (fa 2 v6)) fun t97_17 =>
 M.bind (noPan (fa 3 t97_17)) fun t98_18 =>
 M.bind (noPan (st 1 true t98_18 t96_16)) fun _ =>
 M.pure [PV.undef, PV.undef, PV.undef, PV.undef, v4, v5, v6, PV.undef, PV.undef, PV.undef, PV.undef, PV.undef, PV.undef, PV.undef, t14_3, PV.undef, PV.undef, PV.undef, PV.undef, PV.undef, PV.undef, PV.undef, PV.undef, PV.undef, PV.undef, PV.undef, PV.undef, PV.undef, PV.undef, PV.undef, PV.undef, PV.undef, PV.undef, PV.undef, PV.undef, PV.undef, PV.undef, PV.undef, PV.undef, PV.undef, PV.undef, PV.undef, PV.undef, PV.undef, PV.undef, PV.undef, PV.undef, PV.undef, PV.undef, PV.undef, PV.undef, PV.undef, PV.undef, PV.undef, PV.undef, PV.undef, PV.undef, PV.undef, PV.undef, PV.undef, PV.undef, PV.undef, PV.undef, PV.undef, PV.undef, PV.undef, PV.undef, PV.undef, PV.undef, PV.undef, PV.undef, PV.undef, PV.undef, PV.undef, PV.undef, PV.undef, PV.undef, PV.undef, PV.undef, v79, v80, v81, t82_0, t83_1, (strip t84_2), t85_5, t86_6, (strip t87_10), t88_7, t89_8, t90_11, t91_12, t92_9, t93_13, t94_14, t95_15, (strip t96_16), t97_17, t98_18, PV.undef, PV.undef]) <|
 chk
 (M.bind (noPan (fa 2 v6)) fun t85_95 =>
 M.bind (noPan (fa 3 t85_95)) fun t86_96 =>
 M.bind (noPan (M.pure (strip v5))) fun t88_97 =>
 M.bind (noPan (fa 0 t14_3)) fun t89_98 =>
 M.bind (noPan (fa 3 t14_3)) fun t92_99 =>
 M.bind (noPan (ld (some 3) false t89_98)) fun t90_100 =>
 M.bind (noPan (ld none false t92_99)) fun t93_101 =>
 M.bind (noPan (ld none true t86_96)) fun t87_102 =>
 M.bind (noPan (callV P C t88_97 [(strip t90_100)])) fun t91_103 =>
 M.bind (noPan (bd [(.int .i64 0), (.bool false), (.int .i64 0), (.bool false)] [(0, 3, t91_103), (3, 1, t93_101)])) fun t94_104 =>
 M.bind (noPan (bs true (some 4) [t94_104])) fun t95_105 =>
 M.bind (noPan (ap true 4 32 t87_102 t95_105)) fun t96_106 =>
 M.bind (noPan (fa 2 v6)) fun t97_107 =>
 M.bind (noPan (fa 3 t97_107)) fun t98_108 =>
 M.bind (noPan (st 1 true t98_108 t96_106)) fun _ =>
 M.pure [PV.undef, PV.undef, PV.undef, PV.undef, v4, v5, v6, PV.undef, PV.undef, PV.undef, PV.undef, PV.undef, PV.undef, PV.undef, t14_3, PV.undef, PV.undef, PV.undef, PV.undef, PV.undef, PV.undef, PV.undef, PV.undef, PV.undef, PV.undef, PV.undef, PV.undef, PV.undef, PV.undef, PV.undef, PV.undef, PV.undef, PV.undef, PV.undef, PV.undef, PV.undef, PV.undef, PV.undef, PV.undef, PV.undef, PV.undef, PV.undef, PV.undef, PV.undef, PV.undef, PV.undef, PV.undef, PV.undef, PV.undef, PV.undef, PV.undef, PV.undef, PV.undef, PV.undef, PV.undef, PV.undef, PV.undef, PV.undef, PV.undef, PV.undef, PV.undef, PV.undef, PV.undef, PV.undef, PV.undef, PV.undef, PV.undef, PV.undef, PV.undef, PV.undef, PV.undef, PV.undef, PV.undef, PV.undef, PV.undef, PV.undef, PV.undef, PV.undef, PV.undef, v79, v80, v81, t82_0, t83_1, (strip t84_2), t85_95, t86_96, (strip t87_102), t88_97, t89_98, t90_100, t91_103, t92_99, t93_101, t94_104, t95_105, (strip t96_106), t97_107, t98_108, PV.undef, PV.undef])
 (M.bind (noPan (fa 2 v6)) fun t85_5 =>
 M.bind (noPan (fa 3 t85_5)) fun t86_6 =>
 M.bind (noPan (M.pure (strip v5))) fun t88_7 =>
 M.bind (noPan (fa 0 t14_3)) fun t89_8 =>
 M.bind (noPan (fa 3 t14_3)) fun t92_9 =>
 M.bind (noPan (ld none true t86_6)) fun t87_10 =>
 M.bind (noPan (ld (some 3) false t89_8)) fun t90_11 =>
 M.bind (noPan (callV P C t88_7 [(strip t90_11)])) fun t91_12 =>
 M.bind (noPan (ld none false t92_9)) fun t93_13 =>
 M.bind (noPan (bd [(.int .i64 0), (.bool false), (.int .i64 0), (.bool false)] [(0, 3, t91_12), (3, 1, t93_13)])) fun t94_14 =>
 M.bind (noPan (bs true (some 4) [t94_14])) fun t95_15 =>
 M.bind (noPan (ap true 4 32 t87_10 t95_15)) fun t96_16 =>
 M.bind (noPan (fa 2 v6)) fun t97_17 =>
 M.bind (noPan (fa 3 t97_17)) fun t98_18 =>
 M.bind (noPan (st 1 true t98_18 t96_16)) fun _ =>
 M.pure [PV.undef, PV.undef, PV.undef, PV.undef, v4, v5, v6, PV.undef, PV.undef, PV.undef, PV.undef, PV.undef, PV.undef, PV.undef, t14_3, PV.undef, PV.undef, PV.undef, PV.undef, PV.undef, PV.undef, PV.undef, PV.undef, PV.undef, PV.undef, PV.undef, PV.undef, PV.undef, PV.undef, PV.undef, PV.undef, PV.undef, PV.undef, PV.undef, PV.undef, PV.undef, PV.undef, PV.undef, PV.undef, PV.undef, PV.undef, PV.undef, PV.undef, PV.undef, PV.undef, PV.undef, PV.undef, PV.undef, PV.undef, PV.undef, PV.undef, PV.undef, PV.undef, PV.undef, PV.undef, PV.undef, PV.undef, PV.undef, PV.undef, PV.undef, PV.undef, PV.undef, PV.undef, PV.undef, PV.undef, PV.undef, PV.undef, PV.undef, PV.undef, PV.undef, PV.undef, PV.undef, PV.undef, PV.undef, PV.undef, PV.undef, PV.undef, PV.undef, PV.undef, v79, v80, v81, t82_0, t83_1, (strip t84_2), t85_5, t86_6, (strip t87_10), t88_7, t89_8, t90_11, t91_12, t92_9, t93_13, t94_14, t95_15, (strip t96_16), t97_17, t98_18, PV.undef, PV.undef]) <|
 chk
 (M.bind (noPan (fa 2 v6)) fun t85_110 =>
 M.bind (noPan (fa 3 t85_110)) fun t86_111 =>
 M.bind (noPan (M.pure (strip v5))) fun t88_112 =>
 M.bind (noPan (fa 0 t14_3)) fun t89_113 =>
 M.bind (noPan (fa 3 t14_3)) fun t92_114 =>
 M.bind (noPan (ld (some 3) false t89_113)) fun t90_115 =>
 M.bind (noPan (ld none false t92_114)) fun t93_116 =>
 M.bind (noPan (callV P C t88_112 [(strip t90_115)])) fun t91_117 =>
 M.bind (noPan (bd [(.int .i64 0), (.bool false), (.int .i64 0), (.bool false)] [(0, 3, t91_117), (3, 1, t93_116)])) fun t94_118 =>
 M.bind (noPan (bs true (some 4) [t94_118])) fun t95_119 =>
 M.bind (noPan (ld none true t86_111)) fun t87_120 =>
 M.bind (noPan (ap true 4 32 t87_120 t95_119)) fun t96_121 =>
 M.bind (noPan (fa 2 v6)) fun t97_122 =>
 M.bind (noPan (fa 3 t97_122)) fun t98_123 =>
 M.bind (noPan (st 1 true t98_123 t96_121)) fun _ =>
 M.pure [PV.undef, PV.undef, PV.undef, PV.undef, v4, v5, v6, PV.undef, PV.undef, PV.undef, PV.undef, PV.undef, PV.undef, PV.undef, t14_3, PV.undef, PV.undef, PV.undef, PV.undef, PV.undef, PV.undef, PV.undef, PV.undef, PV.undef, PV.undef, PV.undef, PV.undef, PV.undef, PV.undef, PV.undef, PV.undef, PV.undef, PV.undef, PV.undef, PV.undef, PV.undef, PV.undef, PV.undef, PV.undef, PV.undef, PV.undef, PV.undef, PV.undef, PV.undef, PV.undef, PV.undef, PV.undef, PV.undef, PV.undef, PV.undef, PV.undef, PV.undef, PV.undef, PV.undef, PV.undef, PV.undef, PV.undef, PV.undef, PV.undef, PV.undef, PV.undef, PV.undef, PV.undef, PV.undef, PV.undef, PV.undef, PV.undef, PV.undef, PV.undef, PV.undef, PV.undef, PV.undef, PV.undef, PV.undef, PV.undef, PV.undef, PV.undef, PV.undef, PV.undef, v79, v80, v81, t82_0, t83_1, (strip t84_2), t85_110, t86_111, (strip t87_120), t88_112, t89_113, t90_115, t91_117, t92_114, t93_116, t94_118, t95_119, (strip t96_121), t97_122, t98_123, PV.undef, PV.undef])
 (M.bind (noPan (fa 2 v6)) fun t85_5 =>
 M.bind (noPan (fa 3 t85_5)) fun t86_6 =>
 M.bind (noPan (M.pure (strip v5))) fun t88_7 =>
 M.bind (noPan (fa 0 t14_3)) fun t89_8 =>
 M.bind (noPan (fa 3 t14_3)) fun t92_9 =>
 M.bind (noPan (ld none true t86_6)) fun t87_10 =>
 M.bind (noPan (ld (some 3) false t89_8)) fun t90_11 =>
 M.bind (noPan (callV P C t88_7 [(strip t90_11)])) fun t91_12 =>
 M.bind (noPan (ld none false t92_9)) fun t93_13 =>
 M.bind (noPan (bd [(.int .i64 0), (.bool false), (.int .i64 0), (.bool false)] [(0, 3, t91_12), (3, 1, t93_13)])) fun t94_14 =>
 M.bind (noPan (bs true (some 4) [t94_14])) fun t95_15 =>
 M.bind (noPan (ap true 4 32 t87_10 t95_15)) fun t96_16 =>
 M.bind (noPan (fa 2 v6)) fun t97_17 =>
 M.bind (noPan (fa 3 t97_17)) fun t98_18 =>
 M.bind (noPan (st 1 true t98_18 t96_16)) fun _ =>
 M.pure [PV.undef, PV.undef, PV.undef, PV.undef, v4, v5, v6, PV.undef, PV.undef, PV.undef, PV.undef, PV.undef, PV.undef, PV.undef, t14_3, PV.undef, PV.undef, PV.undef, PV.undef, PV.undef, PV.undef, PV.undef, PV.undef, PV.undef, PV.undef, PV.undef, PV.undef, PV.undef, PV.undef, PV.undef, PV.undef, PV.undef, PV.undef, PV.undef, PV.undef, PV.undef, PV.undef, PV.undef, PV.undef, PV.undef, PV.undef, PV.undef, PV.undef, PV.undef, PV.undef, PV.undef, PV.undef, PV.undef, PV.undef, PV.undef, PV.undef, PV.undef, PV.undef, PV.undef, PV.undef, PV.undef, PV.undef, PV.undef, PV.undef, PV.undef, PV.undef, PV.undef, PV.undef, PV.undef, PV.undef, PV.undef, PV.undef, PV.undef, PV.undef, PV.undef, PV.undef, PV.undef, PV.undef, PV.undef, PV.undef, PV.undef, PV.undef, PV.undef, PV.undef, v79, v80, v81, t82_0, t83_1, (strip t84_2), t85_5, t86_6, (strip t87_10), t88_7, t89_8, t90_11, t91_12, t92_9, t93_13, t94_14, t95_15, (strip t96_16), t97_17, t98_18, PV.undef, PV.undef]) <|
 chk
 (M.bind (noPan (fa 2 v6)) fun t85_125 =>
 M.bind (noPan (fa 3 t85_125)) fun t86_126 =>
 M.bind (noPan (M.pure (strip v5))) fun t88_127 =>
 M.bind (noPan (fa 0 t14_3)) fun t89_128 =>
 M.bind (noPan (fa 3 t14_3)) fun t92_129 =>
 M.bind (noPan (ld none false t92_129)) fun t93_130 =>
 M.bind (noPan (ld none true t86_126)) fun t87_131 =>
 M.bind (noPan (ld (some 3) false t89_128)) fun t90_132 =>
 M.bind (noPan (callV P C t88_127 [(strip t90_132)])) fun t91_133 =>
 M.bind (noPan (bd [(.int .i64 0), (.bool false), (.int .i64 0), (.bool false)] [(0, 3, t91_133), (3, 1, t93_130)])) fun t94_134 =>
 M.bind (noPan (bs true (some 4) [t94_134])) fun t95_135 =>
 M.bind (noPan (ap true 4 32 t87_131 t95_135)) fun t96_136 =>
 M.bind (noPan (fa 2 v6)) fun t97_137 =>
 M.bind (noPan (fa 3 t97_137)) fun t98_138 =>
 M.bind (noPan (st 1 true t98_138 t96_136)) fun _ =>
 M.pure [PV.undef, PV.undef, PV.undef, PV.undef, v4, v5, v6, PV.undef, PV.undef, PV.undef, PV.undef, PV.undef, PV.undef, PV.undef, t14_3, PV.undef, PV.undef, PV.undef, PV.undef, PV.undef, PV.undef, PV.undef, PV.undef, PV.undef, PV.undef, PV.undef, PV.undef, PV.undef, PV.undef, PV.undef, PV.undef, PV.undef, PV.undef, PV.undef, PV.undef, PV.undef, PV.undef, PV.undef, PV.undef, PV.undef, PV.undef, PV.undef, PV.undef, PV.undef, PV.undef, PV.undef, PV.undef, PV.undef, PV.undef, PV.undef, PV.undef, PV.undef, PV.undef, PV.undef, PV.undef, PV.undef, PV.undef, PV.undef, PV.undef, PV.undef, PV.undef, PV.undef, PV.undef, PV.undef, PV.undef, PV.undef, PV.undef, PV.undef, PV.undef, PV.undef, PV.undef, PV.undef, PV.undef, PV.undef, PV.undef, PV.undef, PV.undef, PV.undef, PV.undef, v79, v80, v81, t82_0, t83_1, (strip t84_2), t85_125, t86_126, (strip t87_131), t88_127, t89_128, t90_132, t91_133, t92_129, t93_130, t94_134, t95_135, (strip t96_136), t97_137, t98_138, PV.undef, PV.undef])
 (M.bind (noPan (fa 2 v6)) fun t85_5 =>
 M.bind (noPan (fa 3 t85_5)) fun t86_6 =>
 M.bind (noPan (M.pure (strip v5))) fun t88_7 =>
 M.bind (noPan (fa 0 t14_3)) fun t89_8 =>
 M.bind (noPan (fa 3 t14_3)) fun t92_9 =>
 M.bind (noPan (ld none true t86_6)) fun t87_10 =>
 M.bind (noPan (ld (some 3) false t89_8)) fun t90_11 =>
 M.bind (noPan (callV P C t88_7 [(strip t90_11)])) fun t91_12 =>
 M.bind (noPan (ld none false t92_9)) fun t93_13 =>
 M.bind (noPan (bd [(.int .i64 0), (.bool false), (.int .i64 0), (.bool false)] [(0, 3, t91_12), (3, 1, t93_13)])) fun t94_14 =>
 M.bind (noPan (bs true (some 4) [t94_14])) fun t95_15 =>
 M.bind (noPan (ap true 4 32 t87_10 t95_15)) fun t96_16 =>
 M.bind (noPan (fa 2 v6)) fun t97_17 =>
 M.bind (noPan (fa 3 t97_17)) fun t98_18 =>
 M.bind (noPan (st 1 true t98_18 t96_16)) fun _ =>
 M.pure [PV.undef, PV.undef, PV.undef, PV.undef, v4, v5, v6, PV.undef, PV.undef, PV.undef, PV.undef, PV.undef, PV.undef, PV.undef, t14_3, PV.undef, PV.undef, PV.undef, PV.undef, PV.undef, PV.undef, PV.undef, PV.undef, PV.undef, PV.undef, PV.undef, PV.undef, PV.undef, PV.undef, PV.undef, PV.undef, PV.undef, PV.undef, PV.undef, PV.undef, PV.undef, PV.undef, PV.undef, PV.undef, PV.undef, PV.undef, PV.undef, PV.undef, PV.undef, PV.undef, PV.undef, PV.undef, PV.undef, PV.undef, PV.undef, PV.undef, PV.undef, PV.undef, PV.undef, PV.undef, PV.undef, PV.undef, PV.undef, PV.undef, PV.undef, PV.undef, PV.undef, PV.undef, PV.undef, PV.undef, PV.undef, PV.undef, PV.undef, PV.undef, PV.undef, PV.undef, PV.undef, PV.undef, PV.undef, PV.undef, PV.undef, PV.undef, PV.undef, PV.undef, v79, v80, v81, t82_0, t83_1, (strip t84_2), t85_5, t86_6, (strip t87_10), t88_7, t89_8, t90_11, t91_12, t92_9, t93_13, t94_14, t95_15, (strip t96_16), t97_17, t98_18, PV.undef, PV.undef]) <|
 M.bind (noPan (fa 2 v6)) fun t85_140 =>
 M.bind (noPan (fa 3 t85_140)) fun t86_141 =>
 M.bind (noPan (M.pure (strip v5))) fun t88_142 =>
 M.bind (noPan (fa 0 t14_3)) fun t89_143 =>
 M.bind (noPan (fa 3 t14_3)) fun t92_144 =>
 M.bind (noPan (ld none true t86_141)) fun t87_145 =>
 M.bind (noPan (ld (some 3) false t89_143)) fun t90_146 =>
 M.bind (noPan (callV P C t88_142 [(strip t90_146)])) fun t91_147 =>
 M.bind (noPan (ld none false t92_144)) fun t93_148 =>
 M.bind (noPan (bd [(.int .i64 0), (.bool false), (.int .i64 0), (.bool false)] [(0, 3, t91_147), (3, 1, t93_148)])) fun t94_149 =>
 M.bind (noPan (bs true (some 4) [t94_149])) fun t95_150 =>
 M.bind (noPan (ap true 4 32 t87_145 t95_150)) fun t96_151 =>
 M.bind (noPan (fa 2 v6)) fun t97_152 =>
 M.bind (noPan (fa 3 t97_152)) fun t98_153 =>
 M.bind (noPan (st 1 true t98_153 t96_151)) fun _ =>
 M.bind (bi .add .none v81 (.int .i64 1)) fun t99_155 =>
 u0f v4 v5 v6 v79 v80 (strip t99_155))
 (M.bind (ld (some 6) true v6) fun t100_156 =>
 M.bind (st 6 true v4 t100_156) fun _ =>
 M.bind (ld (some 6) true v4) fun t0_158 => guardM (!isTup t0_158) (M.pure t0_158)) :=
 (u13 P X _ _ _).trans (by kernel_rfl)
theorem u91 (a0 a1 : PV) : C u01 [a0, a1] =
 trunc (M.bind (bx 6 a0) fun t2_0 =>
 M.bind (bx 1 a1) fun t3_1 =>
 M.bind (al [(.bool false), (.slice false true 0 []), (.int .i64 0), (.slice false true 0 []), (.slice false true 0 []), (.slice false true 0 [])]) fun t4_2 =>
 M.bind (mf u02 [] [t3_1]) fun t15_3 =>
 M.bind (fa 0 t2_0) fun t16_4 =>
 M.bind (ld none false t16_4) fun t17_5 =>
 M.bind (fa 2 t2_0) fun t18_6 =>
 M.bind (fa 0 t18_6) fun t19_7 =>
 M.bind (ld none false t19_7) fun t20_8 =>
 M.bind (bd [(.int .i64 0), (.slice false true 0 []), (.slice false true 0 []), (.slice false true 0 [])] [(0, 1, t20_8)]) fun t21_9 =>
 M.bind (bd [(.bool false), (.slice false true 0 []), (.int .i64 0), (.slice false true 0 []), (.slice false true 0 []), (.slice false true 0 [])] [(0, 1, t17_5), (2, 4, t21_9)]) fun t22_10 =>
 M.bind (al [(.bool false), (.slice false true 0 []), (.int .i64 0), (.slice false true 0 []), (.slice false true 0 []), (.slice false true 0 [])]) fun t6_11 =>
 M.bind (st 6 true t6_11 t22_10) fun _ =>
 M.bind (fa 1 t2_0) fun t23_13 =>
 M.bind (ld none false t23_13) fun t24_14 =>
 M.bind (lnL t24_14) fun t25_15 =>
 u11 t2_0 t3_1 t4_2 t15_3 t6_11 t24_14 t25_15 (.int .i64 0)) := by
 rw [C, u0o _ _ rfl]; kernel_rfl
noncomputable def u3m (v0 v3 : PV) : M PV := atP P X u2u [1, 1] (mkEnv 11 0 [(0, v0), (3, v3)])
theorem u3w (v0 v3 : PV) : u3m v0 v3 =
 resT v0 (M.pure v0) :=
 (u13 P X _ _ _).trans (by kernel_rfl)
theorem u9b (a0 a1 : PV) : C u2u [a0, a1] =
 trunc (M.bind (bi .geq .none (strip a0) (.int .i64 0)) fun t5_0 =>
 condM t5_0
 (M.bind (ld none true a1) fun t6_1 =>
 M.bind (bs true none [(strip a0)]) fun t8_2 =>
 M.bind (ap true 1 8 t6_1 t8_2) fun t9_3 =>
 M.bind (st 1 true a1 t9_3) fun _ =>
 u3m a0 (.int .i64 0))
 (u3m a0 (.int .i64 0))) := by
 rw [C, u0o _ _ rfl]; kernel_rfl
end Go.Proofs.YtiiepllnnjjmaaaDoor.Pi.Q
