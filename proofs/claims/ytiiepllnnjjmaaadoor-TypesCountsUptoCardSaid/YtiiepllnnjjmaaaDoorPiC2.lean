/- What the law rests on, part 3 of 4: a reading of the program's code over told data, and what it comes to. -/
import Derived.Test.YtiiepllnnjjmaaaDoorPiC1
set_option linter.unusedVariables false
set_option linter.unusedSimpArgs false
set_option maxRecDepth 100000
namespace Go.Proofs.YtiiepllnnjjmaaaDoor.Pi
variable {g : G} {L L' : Owner} {w w' : World} {H : Heap} {x : Nat} {env : Env}
def Ex.to : Ex → Exit
  | .normal => .normal
  | .exit id => .exit id
  | .ret => .ret
def KLeaf (CDN : Option PV → CallT) (c : Ctx) (g0 : G) (w0 : World) (out : Out PV) (k : K) (Q : Exit → Act → World → Prop) : Prop := ∀ e, Leaf CDN c g0 w0 out (k e) (Q e.to)
theorem u77 (l : List Tmp) : ∀ (i : Nat) (env : Env) (t : Nat), (u3x l i env)[t]? = (env[t]?).map fun v => bif l.contains (i + t) then v else .undef
  | i, [], t => by simp [u3x]
  | i, v :: r, t => by
    cases t with
    | zero => simp [u3x]
    | succ t =>
      simp only [u3x, List.getElem?_cons_succ]
      rw [u77 l (i + 1) r t]
      simp [Nat.add_assoc, Nat.add_comm 1 t]
theorem ubk (l : List Tmp) (env : Env) (t : Nat) : (keep l env)[t]? = (env[t]?).map fun v => bif l.contains t then v else .undef := by
  unfold keep
  rw [u77]
  simp
theorem uez (l : List Tmp) (env : Env) : (keep l env).length = env.length := by
  have h1 : ∀ (i : Nat) (env : Env), (u3x l i env).length = env.length := by
    intro i env
    induction env generalizing i with
    | nil => rfl
    | cons v r ih => simp [u3x, ih]
  exact h1 0 env
theorem Sta.keep {c : Ctx} {a : Act} {Δ : List Dfr} (h : Sta c g H env a w Δ) {l : List Tmp} (hp : ∀ t ∈ c.prot, t ∈ l) : Sta c g H (keep l env) a w Δ := by
  refine ⟨h.inv, ⟨h.tok.one, by rw [uez]; exact h.tok.len, fun t v p hv hp' => ?_, fun t p ht hp' => ?_⟩, h.defs.step (fun _ _ h => h) (fun _ _ _ h => h) (fun t ht id off he => ?_)⟩
  · rw [ubk] at hp'
    obtain ⟨q, hq, rfl⟩ := Option.map_eq_some_iff.mp hp'
    cases l.contains t
    · exact .one (.undef _)
    · exact h.tok.val t v q hv hq
  · rw [ubk] at hp'
    obtain ⟨q, hq, rfl⟩ := Option.map_eq_some_iff.mp hp'
    cases l.contains t
    · exact .inl rfl
    · exact h.tok.slot t q ht hq
  · have h1 : l.contains t = true := List.contains_iff_mem.mpr (hp t ht)
    rw [List.getD_eq_getElem?_getD] at he ⊢
    rw [ubk]
    cases hv : env[t]? with
    | none => rw [hv] at he; simp at he
    | some v =>
      rw [hv] at he
      simp only [Option.map_some, h1, cond_true]
      exact he
def LSound (CDN : Option PV → CallT) (c : Ctx) (L : LoopT) : Prop :=
  ∀ (af : List Tmp) (b : Code) (k : K) (Q : Exit → Act → World → Prop) (g0 : G) (w0 : World) (out : Out PV), (∀ t ∈ c.prot, t ∈ af) → KLeaf CDN c g0 w0 out k Q → u88 CDN c g0 w0 out (fun ch => Q (.panic ch)) →
    ∀ env a w g H Δ o, Glob g0 w0 g w → Sta c g H env a w Δ → L af b env k H = some o → unw CDN Δ o = some out → b.wp c.P Q a w
variable {c : Ctx} {CDN : Option PV → CallT}
theorem u48 (g : G) (w : World) : Glob g w g { w with drawn := w.drawn + 1 } := ⟨rfl, rfl, rfl, Nat.le_refl _, fun _ _ h k => ⟨h, k, rfl⟩, Grow.refl _ _⟩
theorem Sta.drew {a : Act} {Δ : List Dfr} (h : Sta c g H env a w Δ) : Sta c g H env a { w with drawn := w.drawn + 1 } Δ :=
  ⟨⟨h.inv.len, h.inv.nd, h.inv.im, h.inv.ow, fun id b x hb hx => by
    have := h.inv.box id b x hb hx
    cases x <;> exact this, h.inv.gl⟩, h.tok, h.defs⟩
theorem u3g (hC : CSound c.P c.C) (hrc : c.rc = none) (hle : ∀ r f a, Le (c.CD r f a) (CDN r f a)) {L : LoopT} (hL : LSound CDN c L) :
    ∀ (co : Code) (af : List Tmp) (k : K) (Q : Exit → Act → World → Prop) (g0 : G) (w0 : World) (out : Out PV), (∀ t ∈ c.prot, t ∈ af) → KLeaf CDN c g0 w0 out k Q → u88 CDN c g0 w0 out (fun ch => Q (.panic ch)) →
      ∀ env a w g H Δ o, Glob g0 w0 g w → Sta c g H env a w Δ → den c L af co env k H = some o → unw CDN Δ o = some out → co.wp c.P Q a w
  | .skip, af, k, Q, g0, w0, out, hp, hk, hpl, env, a, w, g, H, Δ, o, hgl, hS, h, hu => wp_skip (hk .normal Δ o g H env a w h hu hgl hS)
  | .label l, af, k, Q, g0, w0, out, hp, hk, hpl, env, a, w, g, H, Δ, o, hgl, hS, h, hu => wp_label (hk .normal Δ o g H env a w h hu hgl hS)
  | .ret, af, k, Q, g0, w0, out, hp, hk, hpl, env, a, w, g, H, Δ, o, hgl, hS, h, hu => wp_ret (hk .ret Δ o g H env a w h hu hgl hS)
  | .exit id, af, k, Q, g0, w0, out, hp, hk, hpl, env, a, w, g, H, Δ, o, hgl, hS, h, hu => wp_exit (hk (.exit id) Δ o g H env a w h hu hgl hS)
  | .region id ops true, af, k, Q, g0, w0, out, hp, hk, hpl, env, a, w, g, H, Δ, o, hgl, hS, h, hu => by
    have h : guardM (c.P.follows .mixedOrders && commB ops) (bif modeA ops && (c.rc.isNone && c.prot.isEmpty) then dOpsAA c ops env (k .normal) else bif modeP ops && c.rc.isNone then dOpsP c ops env (k .normal) else bif ops.any u0z || c.rc.isSome then dOpsW c ops 0 [] ops.toList env (k .normal) else dOpsN c ops ops.toList env (k .normal)) H = some o := h
    obtain ⟨hg, h⟩ := u02 h
    simp only [Bool.and_eq_true] at hg
    have hall : restOf ops (Array.replicate ops.size false) = List.range' 0 ops.toList.length := by
      unfold restOf
      rw [List.filter_eq_self.mpr, List.range_eq_range', Array.length_toList]
      intro i hi
      simp [Array.getD_eq_getD_getElem?, List.mem_range.mp hi]
    cases hba : (modeA ops && (c.rc.isNone && c.prot.isEmpty)) with
    | true =>
      rw [hba] at h
      have h : dOpsAA c ops env (k .normal) H = some o := h
      simp only [Bool.and_eq_true] at hba
      obtain ⟨hma, _, hprot⟩ := hba
      have hprot : c.prot = [] := List.isEmpty_iff.mp hprot
      obtain ⟨a1, a2, hals, h⟩ := ufb h
      have hcons := uhu hma hals
      · obtain ⟨e2, H2, e1, H1, q2, q1, hsw, hx⟩ := chkA_some.mp h
        obtain ⟨e1', H1', L1, l1, _, l3, l4, hk'⟩ := ubu _ _ _ _ hx
        obtain ⟨e1'', H1'', L1', l1', _, l3', l4', hp1⟩ := ubu _ _ _ _ q1
        obtain ⟨e2'', H2'', L2, m1, _, m3, m4, hp2⟩ := ubu _ _ _ _ q2
        have hp1 : some (Out.ok e1'' H1'') = some (Out.ok e1 H1) := hp1
        have hp2 : some (Out.ok e2'' H2'') = some (Out.ok e2 H2) := hp2
        simp only [Option.some.injEq, Out.ok.injEq] at hp1 hp2
        obtain ⟨rfl, rfl⟩ := hp1
        obtain ⟨rfl, rfl⟩ := hp2
        obtain ⟨rfl, rfl⟩ := ugd l4 l4' (l1.trans l1'.symm)
        have hal : ∀ i o, ops[i]? = some o → isAl o = true → i = a1 ∨ i = a2 := fun i o hi ho => by
          have hm : i ∈ alsOf ops := by
            unfold alsOf
            rw [List.mem_filter]
            exact ⟨List.mem_range.mpr (Array.getElem?_eq_some_iff.mp hi).1, by rw [hi]; exact ho⟩
          rw [hals] at hm
          simpa using hm
        have hsorted : (alsOf ops).Pairwise (· < ·) := by unfold alsOf; exact List.pairwise_lt_range.filter _
        rw [hals] at hsorted
        have h12 : a1 < a2 := by simpa using hsorted
        have hmem : ∀ i ∈ [a1, a2], i < ops.size := fun i hi => by
          rw [← hals] at hi
          unfold alsOf at hi
          exact List.mem_range.mp (List.mem_filter.mp hi).1
        have hlen0 := hS.inv.len
        refine wp_region_any hg.1 (u43 hC hg.2 (R := RB c ops a1 a2 e1' H1' e2'' H2'') (Δ := Δ) (g0 := g0) (w0 := w0) (fun A i B oi e K hi ha hnb hR => RB.front hg.2 h12 hal hcons A i B oi e K hi ha hnb hR) (fun e K gf af wf hR hglf hSf => ?_) ops.size _ env H a _ g (by simp) ?_ ?_ ?_ (hgl.trans (u48 g w)) hS.drew)
        · obtain ⟨_, _, hR⟩ := hR
          rcases hR with ⟨h1, _⟩ | ⟨_, hR | hR⟩
          · cases h1
          · obtain ⟨rfl, rfl⟩ := hR.nil
            exact hk .normal Δ o gf K e af wf hk' hu hglf hSf
          · obtain ⟨rfl, rfl⟩ := hR.nil
            have hlf : gf.ι.length = H.length + 2 := by
              rw [hSf.inv.len]
              obtain ⟨H0, x1, x2, hn, _, hH2, _⟩ := hsw
              rw [hH2]
              simp [hn]
            exact hk .normal Δ o (swG gf H.length) H1' e1' af wf hk' hu (uki hlf hlen0 hgl.up hglf) (ul1 hprot hsw hSf)
        · exact Nat.le_trans (List.length_filter_le _ _) (by simp)
        · intro j i hj hl
          simp [Array.getD_eq_getD_getElem?, hj] at hl
        · rw [hall, Array.length_toList, ← List.range_eq_range']
          refine ⟨List.pairwise_lt_range, fun i hi => List.mem_range.mp hi, .inl ⟨List.mem_range.mpr (hmem a1 (by simp)), List.mem_range.mpr (hmem a2 (by simp)), ⟨L1, l1, l3, l4⟩, ⟨L2, m1, m3, m4⟩⟩⟩
    | false =>
    rw [hba] at h
    cases hbp : (modeP ops && c.rc.isNone) with
    | true =>
      rw [hbp] at h
      have h : dOpsP c ops env (k .normal) H = some o := h
      unfold dOpsP at h
      cases hlb : lastB ops with
      | true =>
        rw [hlb] at h
        obtain ⟨e', H', hRL, hk'⟩ := u94 hg.2 h
        unfold u50 at hk'
        cases hol : ops[ops.size - 1]? with
        | none => rw [hol] at hk'; exact (u00 (H := H') hk').elim
        | some ol =>
          rw [hol] at hk'
          obtain ⟨hok, hk'⟩ := u02 hk'
          have hb : M.bind (gval c.P c.C c.rc ops e' ol) (fun v => k .normal (put c.rc ops e' ol v)) H' = some o := hk'
          have hn0 : 0 < ops.size := by
            rcases Nat.eq_zero_or_pos ops.size with h0 | h0
            · rw [Array.getElem?_eq_none (by omega)] at hol; cases hol
            · exact h0
          cases hgv : gval c.P c.C c.rc ops e' ol H' with
          | none => unfold M.bind at hb; rw [hgv] at hb; simp at hb
          | some o1 =>
            unfold M.bind at hb
            rw [hgv] at hb
            refine wp_region_any hg.1 (ua3 hC hg.2 (R := RP c ops e' H' o1) (PQ := fun v K => o1 = .pan v K) (Δ := Δ) (g0 := g0) (w0 := w0) (fun A i B oi e K hi ha hnb hR => RP.front hlb hol hok hgv A i B oi e K hi hnb hR) (fun e K g a w hR hgl hS => ?_) (fun v K g e a w cv he hgl hS hr => ?_) ops.size _ env H a _ g (by simp) ?_ ?_ ?_ (hgl.trans (u48 g w)) hS.drew)
            · rcases hR with ⟨A, hA, _⟩ | ⟨_, v, o', ho', he, rfl⟩
              · simp at hA
              · rw [hol] at ho'
                cases ho'
                subst he
                exact hk .normal Δ o g K _ a w hb hu hgl hS
            · subst he
              simp only [Option.some.injEq] at hb
              subst hb
              exact hpl Δ v K g e a w cv hu hgl hS hr
            · exact Nat.le_trans (List.length_filter_le _ _) (by simp)
            · intro j i hj hl
              simp [Array.getD_eq_getD_getElem?, hj] at hl
            · rw [hall, Array.length_toList, ← List.range_eq_range']
              refine .inl ⟨List.range (ops.size - 1), ?_, fun k hk => List.mem_range.mp hk, hRL⟩
              rw [← List.range_succ]
              congr 1
              omega
      | false =>
        rw [hlb] at h
        obtain ⟨e', H', hRL, hk'⟩ := u94 hg.2 h
        refine wp_region_any hg.1 (u43 hC hg.2 (R := RL c ops e' H') (Δ := Δ) (g0 := g0) (w0 := w0) (fun A i B oi e K hi ha hnb hR => RL.front A i B oi e K hi hnb hR) (fun e K g a w hR hgl hS => ?_) ops.size _ env H a _ g (by simp) ?_ ?_ ?_ (hgl.trans (u48 g w)) hS.drew)
        · obtain ⟨rfl, rfl⟩ := hR.nil
          exact hk .normal Δ o g K e a w hk' hu hgl hS
        · exact Nat.le_trans (List.length_filter_le _ _) (by simp)
        · intro j i hj hl
          simp [Array.getD_eq_getD_getElem?, hj] at hl
        · rw [hall, Array.length_toList, ← List.range_eq_range']
          exact hRL
    | false =>
    rw [hbp] at h
    cases hbr : (ops.any u0z || c.rc.isSome) with
    | true =>
      rw [hbr] at h
      obtain ⟨e', H', L, l1, _, l3, l4, hk'⟩ := ueo ops.toList [] 0 env H (fun j => by simp) h
      refine wp_region_any hg.1 (u43 hC hg.2 (R := RW c ops e' H') (Δ := Δ) (g0 := g0) (w0 := w0) (fun A i B oi e K hi ha hnb hR => RW.front hg.2 A i B oi e K hi ha hnb hR) (fun e K g a w hR hgl hS => ?_) ops.size _ env H a _ g (by simp) ?_ ?_ ?_ (hgl.trans (u48 g w)) hS.drew)
      · obtain ⟨rfl, rfl⟩ := hR.nil
        exact hk .normal Δ o g K e a w hk' hu hgl hS
      · exact Nat.le_trans (List.length_filter_le _ _) (by simp)
      · intro j i hj hl
        simp [Array.getD_eq_getD_getElem?, hj] at hl
      · rw [hall]
        exact ⟨L, l1, l3, l4⟩
    | false =>
      rw [hbr] at h
      obtain ⟨e', hrun, hk'⟩ := ukn ops.toList 0 env (fun j => by simp) h
      refine wp_region_any hg.1 (uju hC hg.2 (e' := e') (Δ := Δ) (g0 := g0) (w0 := w0) (fun g a w hgl hS => hk .normal Δ o g H e' a w hk' hu hgl hS) ops.size _ env a _ g (by simp) ?_ ?_ ?_ (hgl.trans (u48 g w)) hS.drew)
      · exact Nat.le_trans (List.length_filter_le _ _) (by simp)
      · intro j i hj hl
        simp [Array.getD_eq_getD_getElem?, hj] at hl
      · rw [hall]
        exact hrun
  | .region id ops false, af, k, Q, g0, w0, out, hp, hk, hpl, env, a, w, g, H, Δ, o, hgl, hS, h, hu => by
    refine wp_region ?_
    have := u6w (Q := Q) hC hrc hle (hk .normal) hpl ops.toList 0 env a w g H Δ o (fun j => by simp) hgl hS h hu
    rwa [List.range_eq_range', ← Array.length_toList]
  | .seq x y, af, k, Q, g0, w0, out, hp, hk, hpl, env, a, w, g, H, Δ, o, hgl, hS, h, hu => by
    refine wp_seq ?_
    refine u3g hC hrc hle hL x ((rw y).1 ++ af) _ (Exit.then (y.wp c.P Q) Q) g0 w0 out (fun t ht => List.mem_append_right _ (hp t ht)) (fun e => ?_) hpl env a w g H Δ o hgl hS h hu
    cases e with
    | normal =>
      intro Δ o g H env a w h hu hgl hS
      have h : (bif c.rc.isNone && joinB x then L af y (keep ((rw y).1 ++ af) env) k else den c L af y env k) H = some o := h
      cases hj : (c.rc.isNone && joinB x) with
      | false =>
        rw [hj] at h
        exact u3g hC hrc hle hL y af k Q g0 w0 out hp hk hpl _ a w g H Δ o hgl hS h hu
      | true =>
        rw [hj] at h
        exact hL af y k Q g0 w0 out hp hk hpl _ a w g H Δ o hgl (hS.keep (fun t ht => List.mem_append_right _ (hp t ht))) h hu
    | exit id => exact hk (.exit id)
    | ret => exact hk .ret
  | .cond q x y, af, k, Q, g0, w0, out, hp, hk, hpl, env, a, w, g, H, Δ, o, hgl, hS, h, hu => by
    have rq := ev_rep hS.inv hS.tok q
    have h : condM (ev env q) (den c L af x env k) (den c L af y env k) H = some o := h
    unfold condM at h
    cases hv : ev env q with
    | bool b =>
      rw [hv] at h rq
      have hq := rq.bool
      dsimp only at h
      refine wp_cond hq ?_
      cases b
      · exact u3g hC hrc hle hL y af k Q g0 w0 out hp hk hpl env a w g H Δ o hgl hS h hu
      · exact u3g hC hrc hle hL x af k Q g0 w0 out hp hk hpl env a w g H Δ o hgl hS h hu
    | _ => (rw [hv] at h; exact (u00 (H := H) h).elim)
  | .block id b, af, k, Q, g0, w0, out, hp, hk, hpl, env, a, w, g, H, Δ, o, hgl, hS, h, hu => by
    refine wp_block ?_
    refine u3g hC hrc hle hL b af _ (Exit.inBlock id Q) g0 w0 out hp (fun e => ?_) hpl env a w g H Δ o hgl hS h hu
    cases e with
    | normal => exact hk .normal
    | ret => exact hk .ret
    | exit i =>
      intro Δ o g H env a w h hu hgl hS
      by_cases hi : i = id
      · subst hi
        have h : (bif i == i then k .normal env else k (.exit i) env) H = some o := h
        rw [beq_self_eq_true] at h
        show if i = i then Q .normal a w else Q (.exit i) a w
        rw [if_pos rfl]
        exact hk .normal Δ o g H env a w h hu hgl hS
      · have h : (bif i == id then k .normal env else k (.exit i) env) H = some o := h
        have hb : (i == id) = false := by simpa using hi
        rw [hb] at h
        show if i = id then Q .normal a w else Q (.exit i) a w
        rw [if_neg hi]
        exact hk (.exit i) Δ o g H env a w h hu hgl hS
  | .loop b, af, k, Q, g0, w0, out, hp, hk, hpl, env, a, w, g, H, Δ, o, hgl, hS, h, hu =>
    hL af (.loop b) k Q g0 w0 out hp hk hpl _ a w g H Δ o hgl (hS.keep (fun t ht => List.mem_append_right _ (hp t ht))) h hu
  | .rangeFunc .., af, k, Q, g0, w0, out, hp, hk, hpl, env, a, w, g, H, Δ, o, hgl, hS, h, hu => (u00 (H := H) h).elim
  | .scope _, af, k, Q, g0, w0, out, hp, hk, hpl, env, a, w, g, H, Δ, o, hgl, hS, h, hu => (u00 (H := H) h).elim
  | .goto _, af, k, Q, g0, w0, out, hp, hk, hpl, env, a, w, g, H, Δ, o, hgl, hS, h, hu => (u00 (H := H) h).elim
  | .refuse _, af, k, Q, g0, w0, out, hp, hk, hpl, env, a, w, g, H, Δ, o, hgl, hS, h, hu => (u00 (H := H) h).elim
theorem u4v (p : Nat → Prop) (h : ∃ n, p n) : ∃ n, p n ∧ ∀ m, p m → n ≤ m := by
  obtain ⟨n, hn⟩ := h
  induction n using Nat.strongRecOn with
  | _ n ih =>
    by_cases hl : ∃ m, m < n ∧ p m
    · obtain ⟨m, hm, hp⟩ := hl
      exact ih m hm hp
    · exact ⟨n, hn, fun m hm => by
        rcases Nat.lt_or_ge m n with h | h
        · exact absurd ⟨m, h, hm⟩ hl
        · exact h⟩
noncomputable def least (p : Nat → Prop) (h : ∃ n, p n) : Nat := Classical.choose (u4v p h)
theorem ui2 (p : Nat → Prop) (h : ∃ n, p n) : p (least p h) := (Classical.choose_spec (u4v p h)).1
theorem ulg (p : Nat → Prop) (h : ∃ n, p n) {m : Nat} (hm : p m) : least p h ≤ m := (Classical.choose_spec (u4v p h)).2 m hm
section
variable {P : Program} {X : ExtT}
variable {pr : List Tmp} {C1 C2 : CallT} {D1 D2 : Option PV → CallT} {rc : Option (Option PV)} {res : Env → M PV}
theorem uhh : ∀ {Δ : List Dfr} {ds : List Deferred}, DefsOk ⟨P, pr, C1, D1, rc, res⟩ g env Δ ds → DefsOk ⟨P, pr, C2, D2, rc, res⟩ g env Δ ds
  | [], [], h => h
  | q :: Δ, δ :: ds, h => ⟨h.1, h.2.1, uhh h.2.2⟩
  | [], _ :: _, h => h
  | _ :: _, [], h => h
theorem u61 {a : Act} {Δ : List Dfr} (h : Sta ⟨P, pr, C1, D1, rc, res⟩ g H env a w Δ) : Sta ⟨P, pr, C2, D2, rc, res⟩ g H env a w Δ := ⟨h.inv, h.tok, uhh h.defs⟩
theorem u67 {g0 : G} {w0 : World} {out : Out PV} {k : Env → M PV} {Q : Act → World → Prop} (h : Leaf CDN ⟨P, pr, C1, D1, rc, res⟩ g0 w0 out k Q) : Leaf CDN ⟨P, pr, C2, D2, rc, res⟩ g0 w0 out k Q :=
  fun Δ o g H env a w h1 h2 h3 h4 => h Δ o g H env a w h1 h2 h3 (u61 h4)
theorem u4f {g0 : G} {w0 : World} {out : Out PV} {Q : List PanicEntry → Act → World → Prop} (h : u88 CDN ⟨P, pr, C1, D1, rc, res⟩ g0 w0 out Q) : u88 CDN ⟨P, pr, C2, D2, rc, res⟩ g0 w0 out Q :=
  fun Δ v H g env a w cv h1 h2 h4 h5 => h Δ v H g env a w cv h1 h2 (u61 h4) h5
theorem uip (n : Nat) (r : Option PV) (f : FuncId) (a : List PV) : ∀ {m : Nat}, n ≤ m → Le ((sem P X n).CD r f a) ((sem P X m).CD r f a) := by
  intro m h
  induction h with
  | refl => exact Le.refl _
  | step _ ih => exact fun H q hq => (u4e P X _).CD r f a H q (ih H q hq)
theorem uhv (N : Nat) (hCs : ∀ m, m < N → CSound P (sem P X m).C) (C0 : CallT) (D0 : Option PV → CallT) (CDN : Option PV → CallT)
    (hle : ∀ m, m < N → ∀ r f a, Le ((sem P X m).CD r f a) (CDN r f a)) (n : Nat) (hn : n ≤ N) : LSound CDN ⟨P, pr, C0, D0, none, res⟩ ((sem P X n).L none pr res) := by
  induction n using Nat.strongRecOn with
  | _ n ih =>
  intro af co k Q g0 w0 out hp hk hpl env a w g H Δ o hgl hS h hu
  classical
  by_cases hco : ∃ b, co = .loop b
  case neg =>
    cases n with
    | zero => exact (u00 (H := H) h).elim
    | succ m =>
      have h : den ⟨P, pr, (sem P X m).C, (sem P X m).CD, none, res⟩ ((sem P X m).L none pr res) af co env k H = some o := by
        cases co with
        | loop b => exact absurd ⟨b, rfl⟩ hco
        | _ => exact h
      refine u3g (c := ⟨P, pr, (sem P X m).C, (sem P X m).CD, none, res⟩) (CDN := CDN) (hCs m (by omega)) rfl (hle m (by omega)) (L := (sem P X m).L none pr res) ?_ co af _ _ g0 w0 out hp (fun e => u67 (hk e)) (u4f hpl) env a w g H Δ o hgl (u61 hS) h hu
      intro af' b' k' Q' g0' w0' out' hp' hk' hpl' env' a' w' g' H' Δ' o' hgl' hS' h' hu'
      exact ih m (by omega) (by omega) af' b' k' Q' g0' w0' out' hp' (fun e => u67 (hk' e)) (u4f hpl') env' a' w' g' H' Δ' o' hgl' (u61 hS') h' hu'
  obtain ⟨b, rfl⟩ := hco
  -- what holds at the head of a round with depth m
  let J : Nat → Act → World → Prop := fun m a w => m ≤ n ∧ ∃ env g H Δ o, Glob g0 w0 g w ∧ Sta ⟨P, pr, C0, D0, none, res⟩ g H env a w Δ ∧ (sem P X m).L none pr res af (.loop b) env k H = some o ∧ unw CDN Δ o = some out
  let μ : Act → World → Nat := fun a w => if hh : ∃ m, J m a w then least (fun m => J m a w) hh else 0
  refine wp_loop (fun a w => ∃ m, J m a w) μ ⟨n, Nat.le_refl n, env, g, H, Δ, o, hgl, hS, h, hu⟩ ?_
  intro a w hI
  have hμ : μ a w = least (fun m => J m a w) hI := by
    show (if hh : ∃ m, J m a w then least (fun m => J m a w) hh else 0) = _
    rw [dif_pos hI]
  obtain ⟨hmN, env, g, H, Δ, o, hgl, hS, h, hu⟩ := ui2 (fun m => J m a w) hI
  cases hm : least (fun m => J m a w) hI with
  | zero =>
    rw [hm] at h
    exact (u00 (H := H) h).elim
  | succ m =>
    rw [hm] at h hmN
    have hstep : Code.wp P b (Exit.then (fun a' w' => J m a' w') Q) a w := by
      refine u3g (c := ⟨P, pr, (sem P X m).C, (sem P X m).CD, none, res⟩) (CDN := CDN) (hCs m (by omega)) rfl (hle m (by omega)) (L := (sem P X m).L none pr res) ?_ b (alive af b) _ _ g0 w0 out (fun t ht => List.mem_append_right _ (hp t ht)) (fun e => ?_) ?_ env a w g H Δ o hgl (u61 hS) h hu
      · intro af' b' k' Q' g0' w0' out' hp' hk' hpl' env' a' w' g' H' Δ' o' hgl' hS' h' hu'
        exact ih m (by omega) (by omega) af' b' k' Q' g0' w0' out' hp' (fun e => u67 (hk' e)) (u4f hpl') env' a' w' g' H' Δ' o' hgl' (u61 hS') h' hu'
      · cases e with
        | normal =>
          intro Δ o g H env a w h hu hgl hS
          exact ⟨by omega, _, g, H, Δ, o, hgl, (u61 hS).keep (fun t ht => List.mem_append_right _ (hp t ht)), h, hu⟩
        | exit id => exact u67 (hk (.exit id))
        | ret => exact u67 (hk .ret)
      · exact u4f hpl
    refine wp_mono hstep fun e a' w' hq => ?_
    cases e with
    | normal =>
      have hJ : J m a' w' := hq
      refine ⟨⟨m, hJ⟩, ?_⟩
      rw [hμ, hm]
      have : μ a' w' = least (fun m => J m a' w') ⟨m, hJ⟩ := by
        show (if hh : ∃ m, J m a' w' then least (fun m => J m a' w') hh else 0) = _
        rw [dif_pos ⟨m, hJ⟩]
      rw [this]
      exact Nat.lt_succ_of_le (ulg (fun m => J m a' w') _ hJ)
    | _ => exact hq
end
end Go.Proofs.YtiiepllnnjjmaaaDoor.Pi
namespace Go.Proofs.YtiiepllnnjjmaaaDoor.Pi
variable {P : Program} {g : G} {L L' : Owner} {w w' : World} {H : Heap} {x : Nat} {env : Env}
def resRun (tm : Array Value) : ResultVar → Sem Value
  | .tmp t => pure (tm.getD t undef)
  | .cell a t => do loadVar t (← asAddr (tm.getD a undef))
theorem u8a {fn : Func} {tm : Array Value} {vs : List Value} (h : (fn.results.toList.mapM (resRun tm)).run P w = .ok vs w) : (results fn tm).run P w = .ok (if h : vs.length = 1 then vs[0] else .tuple vs.toArray) w := by
  have e : results fn tm = (do let vs ← fn.results.mapM (resRun tm); pure (if h : vs.size = 1 then vs[0] else .tuple vs)) := by
    unfold results
    congr 1
  rw [e, Array.mapM_eq_mapM_toList]
  simp only [Sem.run_bind, Sem.run_map, h, Result.andThen_ok, Sem.run_pure, Result.ok.injEq, and_true]
  by_cases h1 : vs.length = 1
  · rw [dif_pos h1, dif_pos (by simpa using h1)]
    simp
  · rw [dif_neg h1, dif_neg (by simpa using h1)]
def mvRes (s j : Nat) : Owner → Owner
  | .tmp t => if t = s then .sub .res j else .tmp t
  | M => M
theorem TOk.moveRes {tm : Array Value} (h : TOk x g env tm) (s j : Nat) : TOk x (g.ren (mvRes s j)) (env.set s (strip (env.getD s .undef))) tm := by
  have hl := h.len
  refine ⟨h.one, by simp [h.len], fun t u q hu hq => ?_, fun t q ht hq => ?_⟩
  · by_cases e : s = t
    · subst e
      have h2 : s < env.length := by
        have := (List.getElem?_eq_some_iff.mp hq).1
        simpa using this
      rw [List.getElem?_set_self h2] at hq
      simp only [Option.some.injEq] at hq
      subst hq
      have : env.getD s .undef = env[s] := by simp [List.getD, List.getElem?_eq_getElem h2]
      rw [this]
      exact (h.val s u _ hu (List.getElem?_eq_getElem h2)).stripRen _ _
    · rw [List.getElem?_set_ne e] at hq
      refine (h.val t u q hu hq).ren ?_ (fun j => rfl)
      show (if t = s then _ else _) = _
      rw [if_neg (fun h => e h.symm)]
  · have h3 := h.giveUp (some (s, none))
    exact h3.slot t q ht hq
def uj9 : Owner → Prop
  | .up _ => True
  | .sub .res _ => True
  | _ => False
theorem RepT.notTup {p : PV} {v : Value} (h : RepT g L p v) (hn : isTup p = false) : RepS g L p v := by
  cases h with
  | one h => exact h
  | tup => simp [isTup] at hn
  | aggo => simp [isTup] at hn
theorem uf9 {tm : Array Value} {k : List PV → M PV} {o : Out PV} : ∀ (rs : List ResultVar) (env : Env) (acc : List PV) (g : G) (H : Heap), resV P env rs acc k H = some o → Inv g H w → TOk x g env tm →
    (∃ v H', o = .pan v H' ∧ False) ∨ ∃ pvs cvs g' H', (rs.mapM (resRun tm)).run P w = .ok cvs w ∧ k (acc.reverse ++ pvs) H' = some o ∧ Inv g' H' w ∧ Glob g w g' w ∧ Grow uj9 g g' ∧ pvs.length = cvs.length ∧
      ∀ (j : Nat) (p : PV) (v : Value), pvs[j]? = some p → cvs[j]? = some v → RepS g' (.sub .res (acc.length + j)) p v
  | [], env, acc, g, H, h, hi, hT => .inr ⟨[], [], g, H, by simp, by simpa [resV] using h, hi, Glob.refl _ _, Grow.refl _ _, rfl, fun j p v hp => by simp at hp⟩
  | .tmp t :: r, env, acc, g, H, h, hi, hT => by
    refine .inr ?_
    unfold resV at h
    have rt := ev_tmp hT t
    cases ht : isTup (env.getD t .undef) with
    | true => rw [ht] at h; exact (u00 (H := H) h).elim
    | false =>
      rw [ht] at h
      dsimp only [cond_false] at h
      rcases uf9 r _ _ (g.ren (mvRes t acc.length)) H h (hi.ren (fun _ _ => rfl)) (hT.moveRes t acc.length) with ⟨_, _, _, hf⟩ | ⟨pvs, cvs, g', H', e1, e2, e3, e4, e5, e6, e7⟩
      · exact hf.elim
      refine ⟨env.getD t .undef :: pvs, tm.getD t undef :: cvs, g', H', ?_, ?_, e3, (u30 (w := w) (fun M => rfl)).trans e4, (u6e (fun M hM => by cases M <;> first | rfl | exact hM.elim)).trans e5, by simp [e6], fun j p v hp hv => ?_⟩
      · simp only [List.mapM_cons, Sem.run_bind, resRun, Sem.run_pure, Result.andThen_ok, e1]
      · simpa using e2
      · cases j with
        | zero =>
          simp at hp hv
          subst hp; subst hv
          have h1 : RepS (g.ren (mvRes t acc.length)) (.sub .res acc.length) (env.getD t .undef) (tm.getD t undef) := by
            refine (rt.notTup ht).ren ?_
            show (if t = t then _ else _) = _
            rw [if_pos rfl]
          have h1 := h1.mono e5 (L := .sub .res acc.length) True.intro
          simpa using h1
        | succ j =>
          have := e7 j p v (by simpa using hp) (by simpa using hv)
          simpa [Nat.add_assoc, Nat.add_comm 1 j] using this
  | .cell a t :: r, env, acc, g, H, h, hi, hT => by
    refine .inr ?_
    unfold resV at h
    obtain ⟨hk, h⟩ := u02 h
    unfold M.bind at h
    have rt := ev_tmp hT a
    cases hld : ld (tagg P t) true (env.getD a .undef) H with
    | none => rw [hld] at h; simp at h
    | some o1 =>
      rw [hld] at h
      obtain ⟨v, H1, cv, g1, rfl, h1, h2, h3, h4, h5⟩ := ld_mvS (P := P) (w := w) (tm.size + acc.length + 1) hk hld hi rt
      dsimp only at h
      obtain ⟨hnt, h⟩ := u02 h
      have hnt : isTup v = false := by simpa using hnt
      have hT1 : TOk x g1 env tm := hT.mono h3 (fun M hM => by cases M <;> first | exact True.intro | exact hM.elim)
      have hT2 : TOk x (g1.ren (mvRes (tm.size + acc.length + 1) acc.length)) env tm := by
        refine ⟨hT1.one, hT1.len, fun t' u q hu hq => (hT1.val t' u q hu hq).ren ?_ (fun j => rfl), hT1.slot⟩
        show (if t' = tm.size + acc.length + 1 then _ else _) = _
        rw [if_neg (by have := (Array.getElem?_eq_some_iff.mp hu).1; omega)]
      have hload : (resRun tm (.cell a t)).run P w = .ok cv w := by
        unfold resRun
        have h1' := h1
        unfold Instr.loadAt at h1'
        cases hv : tm.getD a undef with
        | pointer p =>
          rw [hv] at h1'
          cases p with
          | none => simp [Instr.sureAddr] at h1'
          | some ad =>
            dsimp only
            rw [hv]
            simpa [Instr.sureAddr, asAddr] using h1'
        | _ => rw [hv] at h1'; simp [Instr.sureAddr] at h1'
      rcases uf9 r env (v :: acc) (g1.ren (mvRes (tm.size + acc.length + 1) acc.length)) H1 h (h4.ren (fun _ _ => rfl)) hT2 with ⟨_, _, _, hf⟩ | ⟨pvs, cvs, g', H', e1, e2, e3, e4, e5, e6, e7⟩
      · exact hf.elim
      · refine ⟨v :: pvs, cv :: cvs, g', H', ?_, by simpa using e2, e3, h2.trans ((u30 (w := w) (fun M => rfl)).trans e4), ?_, by simp [e6], fun j p u hp hu => ?_⟩
        · simp only [List.mapM_cons, Sem.run_bind, hload, Sem.run_pure, Result.andThen_ok, e1]
        · exact (h3.sub (fun M hM => by cases M <;> first | exact True.intro | exact hM.elim)).trans ((u6e (fun M hM => by cases M <;> first | rfl | exact hM.elim)).trans e5)
        · cases j with
          | zero =>
            simp at hp hu
            subst hp; subst hu
            have h6 := (h5.notTup hnt).ren (f := mvRes (tm.size + acc.length + 1) acc.length) (L' := .sub .res acc.length) (by
              show (if tm.size + acc.length + 1 = tm.size + acc.length + 1 then _ else _) = _
              rw [if_pos rfl])
            have h7 := h6.mono e5 (L := .sub .res acc.length) True.intro
            simpa using h7
          | succ j =>
            have := e7 j p u (by simpa using hp) (by simpa using hu)
            simpa [Nat.add_assoc, Nat.add_comm 1 j] using this
end Go.Proofs.YtiiepllnnjjmaaaDoor.Pi
namespace Go.Proofs.YtiiepllnnjjmaaaDoor.Pi
variable {P : Program} {g : G} {L L' : Owner} {w w' : World} {H : Heap} {x : Nat} {env : Env}
def u7t (g : G) (e : Env) (tm : Array Value) (rs : List ResultVar) : Prop :=
  ∀ r ∈ rs, ∃ a t id off b, r = .cell a t ∧ e.getD a .undef = .ptr id off ∧ g.ι[id]? = some b ∧ tm.getD a undef = .pointer (some ⟨b, off, none⟩)
theorem uj7 {tm : Array Value} {k : List PV → M PV} {o : Out PV} {e : Env} : ∀ (rs : List ResultVar) (acc : List PV) (g : G) (H : Heap), resV P e rs acc k H = some o → Inv g H w → u7t g e tm rs →
    ∃ pvs cvs g' H', (rs.mapM (resRun tm)).run P w = .ok cvs w ∧ k (acc.reverse ++ pvs) H' = some o ∧ Inv g' H' w ∧ Glob g w g' w ∧ Grow uj9 g g' ∧ pvs.length = cvs.length ∧
      ∀ (j : Nat) (p : PV) (v : Value), pvs[j]? = some p → cvs[j]? = some v → RepS g' (.sub .res (acc.length + j)) p v
  | [], acc, g, H, h, hi, hT => ⟨[], [], g, H, by simp, by simpa [resV] using h, hi, Glob.refl _ _, Grow.refl _ _, rfl, fun j p v hp => by simp at hp⟩
  | r0 :: r, acc, g, H, h, hi, hT => by
    obtain ⟨a, t, id, off, b, rfl, he, hb, hv⟩ := hT r0 List.mem_cons_self
    unfold resV at h
    obtain ⟨hk, h⟩ := u02 h
    unfold M.bind at h
    rw [he] at h
    have rt : RepT g (.tmp 0) (.ptr id off) (tm.getD a undef) := by rw [hv]; exact rT (.ptr hb) _
    cases hld : ld (tagg P t) true (.ptr id off) H with
    | none => rw [hld] at h; simp at h
    | some o1 =>
      rw [hld] at h
      obtain ⟨v, H1, cv, g1, rfl, h1, h2, h3, h4, h5⟩ := ld_mvS (P := P) (w := w) (tm.size + acc.length + 1) hk hld hi rt
      dsimp only at h
      obtain ⟨hnt, h⟩ := u02 h
      have hnt : isTup v = false := by simpa using hnt
      have hload : (resRun tm (.cell a t)).run P w = .ok cv w := by
        unfold resRun
        have h1' := h1
        unfold Instr.loadAt at h1'
        dsimp only
        rw [hv] at h1' ⊢
        simpa [Instr.sureAddr, asAddr] using h1'
      have hT2 : u7t (g1.ren (mvRes (tm.size + acc.length + 1) acc.length)) e tm r := fun q hq => by
        obtain ⟨a, t, id, off, b, e1, e2, e3, e4⟩ := hT q (List.mem_cons_of_mem _ hq)
        exact ⟨a, t, id, off, b, e1, e2, h2.up.ι _ _ e3, e4⟩
      obtain ⟨pvs, cvs, g', H', e1, e2, e3, e4, e5, e6, e7⟩ := uj7 r (v :: acc) (g1.ren (mvRes (tm.size + acc.length + 1) acc.length)) H1 h (h4.ren (fun _ _ => rfl)) hT2
      refine ⟨v :: pvs, cv :: cvs, g', H', ?_, by simpa using e2, e3, h2.trans ((u30 (w := w) (fun M => rfl)).trans e4), ?_, by simp [e6], fun j p u hp hu => ?_⟩
      · simp only [List.mapM_cons, Sem.run_bind, hload, Sem.run_pure, Result.andThen_ok, e1]
      · exact (h3.sub (fun M hM => by cases M <;> first | exact True.intro | exact hM.elim)).trans ((u6e (fun M hM => by cases M <;> first | rfl | exact hM.elim)).trans e5)
      · cases j with
        | zero =>
          simp at hp hu
          subst hp; subst hu
          have h6 := (h5.notTup hnt).ren (f := mvRes (tm.size + acc.length + 1) acc.length) (L' := .sub .res acc.length) (by
            show (if tm.size + acc.length + 1 = tm.size + acc.length + 1 then _ else _) = _
            rw [if_pos rfl])
          have h7 := h6.mono e5 (L := .sub .res acc.length) True.intro
          simpa using h7
        | succ j =>
          have := e7 j p u (by simpa using hp) (by simpa using hu)
          simpa [Nat.add_assoc, Nat.add_comm 1 j] using this
def oneRes : Owner → Owner
  | .sub .res 0 => .res
  | M => M
def resFin : List PV → M PV
  | [v] => M.pure v
  | vs => M.pure (.tup vs)
theorem ucd {fn : Func} {tm : Array Value} {o : Out PV} {pvs : List PV} {cvs : List Value} {g' : G} {H' : Heap} (e1 : (fn.results.toList.mapM (resRun tm)).run P w = .ok cvs w)
    (e2 : resFin pvs H' = some o) (e3 : Inv g' H' w) (e4 : Glob g w g' w) (e6 : pvs.length = cvs.length)
    (e7 : ∀ (j : Nat) (p : PV) (v : Value), pvs[j]? = some p → cvs[j]? = some v → RepS g' (.sub .res j) p v) :
    ∃ v cv g2, o = .ok v H' ∧ (results fn tm).run P w = .ok cv w ∧ Inv g2 H' w ∧ Glob g w g2 w ∧ RepT g2 .res v cv := by
  have hr := u8a e1
  match pvs, cvs, e6 with
  | [], [], _ =>
    simp only [resFin, M.pure, Option.some.injEq] at e2
    exact ⟨_, _, g', e2.symm, hr, e3, e4, .tup rfl fun j p v hp => by simp at hp⟩
  | [p], [cv], _ =>
    simp only [resFin, M.pure, Option.some.injEq] at e2
    refine ⟨p, cv, g'.ren oneRes, e2.symm, by simpa using hr, e3.ren (fun _ _ => rfl), e4.trans (u30 (fun _ => rfl)), .one ((e7 0 p cv rfl rfl).ren rfl)⟩
  | p :: q :: r, cp :: cq :: cr, h6 =>
    simp only [resFin, M.pure, Option.some.injEq] at e2
    refine ⟨_, .tuple (cp :: cq :: cr).toArray, g', e2.symm, by rw [hr]; simp, e3, e4, .tup (by simpa using h6.symm) fun j u v hu hv => e7 j u v hu (by simpa using hv)⟩
theorem umu {fn : Func} {tm : Array Value} {o : Out PV} (h : resM P fn env H = some o) (hi : Inv g H w) (hT : TOk x g env tm) :
    ∃ v H' cv g2, o = .ok v H' ∧ (results fn tm).run P w = .ok cv w ∧ Inv g2 H' w ∧ Glob g w g2 w ∧ RepT g2 .res v cv := by
  rcases uf9 (w := w) fn.results.toList env [] g H h hi hT with ⟨_, _, _, hf⟩ | ⟨pvs, cvs, g', H', e1, e2, e3, e4, e5, e6, e7⟩
  · exact hf.elim
  · obtain ⟨v, cv, g2, a, b, c, d, e⟩ := ucd (fn := fn) e1 (by rcases pvs with _ | ⟨p, _ | ⟨q, r⟩⟩ <;> exact e2) e3 e4 e6 (by simpa using e7)
    exact ⟨v, H', cv, g2, a, b, c, d, e⟩
theorem ulu {fn : Func} {tm : Array Value} {o : Out PV} (h : resM P fn env H = some o) (hi : Inv g H w) (hT : u7t g env tm fn.results.toList) :
    ∃ v H' cv g2, o = .ok v H' ∧ (results fn tm).run P w = .ok cv w ∧ Inv g2 H' w ∧ Glob g w g2 w ∧ RepT g2 .res v cv := by
  obtain ⟨pvs, cvs, g', H', e1, e2, e3, e4, e5, e6, e7⟩ := uj7 (w := w) fn.results.toList [] g H h hi hT
  obtain ⟨v, cv, g2, a, b, c, d, e⟩ := ucd (fn := fn) e1 (by rcases pvs with _ | ⟨p, _ | ⟨q, r⟩⟩ <;> exact e2) e3 e4 e6 (by simpa using e7)
  exact ⟨v, H', cv, g2, a, b, c, d, e⟩
theorem u7w {CDN : Option PV → CallT} {c : Ctx} {fn : Func} {tm : Array Value} {R : Ending → World → Prop} {g0 : G} {w0 : World} {out0 : Out PV} (hCD : uer P CDN) (hres : c.res = resM P fn)
    (hprot : c.prot ≠ [] → ∀ r ∈ fn.results.toList, ∃ a t, r = .cell a t ∧ a ∈ c.prot)
    (hR : ∀ g v H cv w, out0 = .ok v H → Glob g0 w0 g w → Inv g H w → RepT g .res v cv → R (.returned cv) w) :
    ∀ (Δ : List Dfr) (d : Dfr) (δ : Deferred) (ds : List Deferred) (o : Out PV) (g : G) (H : Heap) (w : World) (u : FrameMode), (match o with | .ok _ H' => H' = H ∧ u = .returning | .pan p H' => H' = H ∧ ∃ cv, u = .panicking [{ v := cv, recovered := false }] ∧ Rep g.ι g.im p cv) →
      Inv g H w → DefsOk c g env (d :: Δ) (δ :: ds) → unw CDN (d :: Δ) o = some out0 → Glob g0 w0 g w → (∀ t ∈ c.prot, ∀ id off, env.getD t .undef = .ptr id off → ∃ b, g.ι[id]? = some b ∧ tm.getD t undef = .pointer (some ⟨b, off, none⟩)) →
      Leaves P fn tm R (δ :: ds) u w
  | Δ, d, δ, ds, o, g, H, w, u, ho, hi, ⟨⟨cap, cargs, hδ, hargs⟩, ⟨hne, ed, hed, hpt⟩, hrest⟩, hu, hgl, hpr => by
    subst hδ
    -- the call itself
    have hcall : ∃ rv v H2, CDN rv d.f d.args H = some (.ok v H2) ∧ ModeOk g rv u ∧ ∃ o', d.res H2 = some o' ∧ unw CDN Δ o' = some out0 ∧ settle (u2q v u) = .returning := by
      have hu' : (dstep CDN d o).bind (unw CDN Δ) = some out0 := hu
      obtain ⟨o', hd, hΔ⟩ := Option.bind_eq_some_iff.mp hu'
      cases o with
      | ok v0 H' =>
        obtain ⟨rfl, rfl⟩ := ho
        have hd : M.bind (CDN none d.f d.args) (fun _ => d.res) H' = some o' := hd
        unfold M.bind at hd
        cases hc : CDN none d.f d.args H' with
        | none => rw [hc] at hd; simp at hd
        | some o1 =>
          obtain ⟨_, v, H2, rfl, _⟩ := hCD _ _ _ _ _ hc
          rw [hc] at hd
          refine ⟨none, v, H2, hc, rfl, o', hd, hΔ, ?_⟩
          unfold u2q
          split <;> first | rfl | (rename_i h; cases h) | rfl
      | pan p H' =>
        obtain ⟨rfl, cv, rfl, hrp⟩ := ho
        have hd : M.bind (CDN (some p) d.f d.args) (fun r => match r with | .tup [] => d.res | _ => M.fail) H' = some o' := hd
        unfold M.bind at hd
        cases hc : CDN (some p) d.f d.args H' with
        | none => rw [hc] at hd; simp at hd
        | some o1 =>
          obtain ⟨_, v, H2, rfl, _⟩ := hCD _ _ _ _ _ hc
          rw [hc] at hd
          dsimp only at hd
          split at hd
          · exact ⟨some p, .tup [], H2, hc, ⟨cv, rfl, hrp⟩, o', hd, hΔ, rfl⟩
          · exact (u00 (H := H2) hd).elim
    obtain ⟨rv, v, H2, hc, hm, o', hres', hΔ, hset⟩ := hcall
    obtain ⟨hcal, v', H2', hov, hsound⟩ := hCD _ _ _ _ _ hc
    simp only [Out.ok.injEq] at hov
    obtain ⟨rfl, rfl⟩ := hov
    refine leaves_cons ?_ (by
      show (callFunc d.f (cargs ++ cap)).run P w = _
      exact u7d hcal) ((hsound g w _ u hi hargs hm).mono ?_)
    · intro e
      cases rv with
      | none => have hm : u = .returning := hm; rw [hm] at e; cases e
      | some p => obtain ⟨cv, hm, _⟩ := hm; rw [hm] at e; cases e
    rintro e u' w1 ⟨g1, cv, hgl1, hgr1, rfl, hi1, rfl⟩
    show Leaves P fn tm R ds (settle (u2q v u)) w1
    rw [hset]
    have hcells : u7t g1 ed tm fn.results.toList := by
      intro r hr
      obtain ⟨a, t, rfl, hap⟩ := hprot hne r hr
      obtain ⟨id, off, h1, h2⟩ := hpt a hap
      obtain ⟨b, hb, htv⟩ := hpr a hap id off h2
      exact ⟨a, t, id, off, b, rfl, h1, hgr1.ι _ _ hb, htv⟩
    rw [hed, hres] at hres'
    obtain ⟨vr, H3, cvr, g3, rfl, hrun, hi3, hgl3, hrep3⟩ := ulu (tm := tm) hres' hi1 hcells
    cases Δ with
    | nil =>
      have hds : ds = [] := by cases ds <;> first | rfl | exact hrest.elim
      subst hds
      have : out0 = .ok vr H3 := by
        have : some (Out.ok vr H3) = some out0 := hΔ
        exact (Option.some.inj this).symm
      exact ⟨cvr, hrun, hR g3 vr H3 cvr w1 this (hgl.trans (hgl1.trans hgl3)) hi3 hrep3⟩
    | cons d2 Δ2 =>
      cases ds with
      | nil => exact hrest.elim
      | cons δ2 ds2 =>
        refine u7w hCD hres hprot hR Δ2 d2 δ2 ds2 (.ok vr H3) g3 H3 w1 .returning ⟨rfl, rfl⟩ hi3 (DefsOk.step (hgl1.trans hgl3).up.ι (hgl1.trans hgl3).up.im (fun t _ id off he => he) hrest) hΔ (hgl.trans (hgl1.trans hgl3)) (fun t ht id off he => ?_)
        obtain ⟨b, hb, htv⟩ := hpr t ht id off he
        exact ⟨b, (hgl1.trans hgl3).up.ι _ _ hb, htv⟩
end Go.Proofs.YtiiepllnnjjmaaaDoor.Pi
namespace Go.Proofs.YtiiepllnnjjmaaaDoor.Pi
variable {P : Program} {g : G} {L L' : Owner} {w w' : World} {H : Heap} {x : Nat} {env : Env}
theorem ucz {args : List PV} {cargs : Array Value} {n : Nat} (h : ArgsOk g args cargs) : TOk 0 (g.ren upF) (args ++ List.replicate (n - args.length) .undef) (cargs ++ Array.replicate (n - cargs.size) undef) := by
  have hs := h.size
  refine ⟨by omega, by simp [hs], fun t v p hv hp => ?_, fun t p ht hp => ?_⟩
  · by_cases ht : t < args.length
    · rw [List.getElem?_append_left ht] at hp
      rw [Array.getElem?_append_left (by omega)] at hv
      obtain ⟨r, s⟩ := h.rep t p v hp hv
      exact r.still s (g' := g.ren upF) (fun _ _ h => h) (fun _ _ _ h => h) _
    · rw [List.getElem?_append_right (by omega)] at hp
      have : p = .undef := by
        have := List.mem_of_getElem? hp
        simpa using (List.mem_replicate.mp this).2
      subst this
      exact .one (.undef _)
  · have h1 := (List.getElem?_eq_some_iff.mp hp).1
    simp [hs] at ht h1
    omega
theorem uha {g' : G} (h : Glob g w g' w') : g.ι.length ≤ g'.ι.length := by
  rcases Nat.lt_or_ge g'.ι.length g.ι.length with h1 | h1
  · exfalso
    have h2 := h.up.ι g'.ι.length _ (List.getElem?_eq_getElem h1)
    have := (List.getElem?_eq_some_iff.mp h2).1
    omega
  · exact h1
theorem uj4 {g1 : G} {w1 : World} {v : PV} {cv : Value} {H' : Heap} (hH : g.ι.length = H.length) (hgl : Glob (g.ren upF) w g1 w1) (hi : Inv g1 H' w1) (hr : RepT g1 .res v cv) :
    u3f g w (.ok v (bif v.low H.length then H'.take H.length else H')) (.returned cv) w1 := by
  have hlen : g.ι.length ≤ g1.ι.length := uha (g := g.ren upF) hgl
  have hi2 : Inv (g1.ren downF) H' w1 := hi.ren (fun _ _ => rfl)
  have hr2 : RepT (g1.ren downF) .res v cv := hr.ren rfl (fun _ => rfl)
  cases hl : v.low H.length with
  | true =>
    obtain ⟨a, b⟩ := out_of hgl (n := H.length) (by omega)
    exact ⟨_, a, b, cv, rfl, hi2.take (by have := hi.len; omega), hr2.lowT hl⟩
  | false =>
    obtain ⟨a, b⟩ := out_of hgl (n := g1.ι.length) hlen
    have e : ({ (g1.ren downF) with ι := g1.ι.take g1.ι.length } : G) = g1.ren downF := by simp [G.ren]
    rw [e] at a b
    exact ⟨_, a, b, cv, rfl, hi2, hr2⟩
theorem uhk {g1 : G} {w1 : World} {v : PV} {cv : Value} {H' : Heap} (hH : g.ι.length = H.length) (hgl : Glob (g.ren upF) w g1 w1) (hi : Inv g1 H' w1) (hl : v.low H.length = true) (hr : Rep g1.ι g1.im v cv) :
    u3f g w (.pan v (H'.take H.length)) (.panicked [{ v := cv, recovered := false }]) w1 := by
  have hlen : g.ι.length ≤ g1.ι.length := uha (g := g.ren upF) hgl
  have hi2 : Inv (g1.ren downF) H' w1 := hi.ren (fun _ _ => rfl)
  obtain ⟨a, b⟩ := out_of hgl (n := H.length) (by omega)
  exact ⟨_, a, b, cv, rfl, hi2.take (by have := hi.len; omega), hr.low hl⟩
def ueu : ResultVar → Bool
  | .cell _ _ => true
  | _ => false
def cellOf : ResultVar → Option Tmp
  | .tmp _ => none
  | .cell a _ => some a
theorem ud8 (fn : Func) : protOf fn = bif fn.results.toList.all ueu then fn.results.toList.filterMap cellOf else [] := rfl
theorem u80 {fn : Func} (h : protOf fn ≠ []) : ∀ r ∈ fn.results.toList, ∃ a t, r = .cell a t ∧ a ∈ protOf fn := by
  intro r hr
  rw [ud8] at h ⊢
  cases hc : fn.results.toList.all ueu with
  | false => rw [hc] at h; exact absurd rfl h
  | true =>
    have h1 := List.all_eq_true.mp hc r hr
    cases r with
    | tmp t => cases h1
    | cell a t => exact ⟨a, t, rfl, List.mem_filterMap.mpr ⟨_, hr, rfl⟩⟩
theorem ulf {fn : Func} : ∀ t ∈ protOf fn, t ∈ u6u fn := by
  intro t ht
  rw [ud8] at ht
  cases hc : fn.results.toList.all ueu with
  | false => rw [hc] at ht; simp at ht
  | true =>
    rw [hc] at ht
    obtain ⟨r, hr, he⟩ := List.mem_filterMap.mp ht
    cases r with
    | tmp s => cases he
    | cell a s =>
      cases he
      exact List.mem_map.mpr ⟨_, hr, rfl⟩
theorem uey {C : CallT} {CD : Option PV → CallT} {LL : Option (Option PV) → List Tmp → (Env → M PV) → LoopT} (hC : CSound P C) (hCD : uer P CD)
    (hL : ∀ fn, LSound CD ⟨P, protOf fn, C, CD, none, resM P fn⟩ (LL none (protOf fn) (resM P fn))) {f : FuncId} {args : List PV} {out : Out PV} (h : fnDen P C CD LL f args H = some out) :
    u3n P f = true ∧ ∀ g w cargs, Inv g H w → ArgsOk g args cargs → Calls P f cargs w (u3f g w out) := by
  unfold fnDen at h
  cases hf : P.funcs[f]? with
  | none => rw [hf] at h; exact (u00 (H := H) h).elim
  | some fn =>
    rw [hf] at h
    dsimp only at h
    cases hb : fn.body with
    | none => rw [hb] at h; exact (u00 (H := H) h).elim
    | some b =>
      rw [hb] at h
      dsimp only at h
      obtain ⟨hn, h⟩ := u02 h
      refine ⟨by unfold u3n; rw [hf]; simp only [hn, hb]; rfl, fun g w cargs hi ha => ?_⟩
      unfold trunc at h
      generalize hm : den _ _ _ _ _ _ H = r at h
      cases r with
      | none => simp at h
      | some out0 =>
        have hret : ∀ g1 v H' cv w1, out0 = .ok v H' → Glob (g.ren upF) w g1 w1 → Inv g1 H' w1 → RepT g1 .res v cv → u3f g w out (.returned cv) w1 := by
          intro g1 v H' cv w1 ho hgl hi1 hr
          subst ho
          simp only [Option.some.injEq] at h
          subst h
          exact uj4 hi.len hgl hi1 hr
        have hpan : ∀ g1 v H' cv w1, out0 = .pan v H' → Glob (g.ren upF) w g1 w1 → Inv g1 H' w1 → Rep g1.ι g1.im v cv → u3f g w out (.panicked [{ v := cv, recovered := false }]) w1 := by
          intro g1 v H' cv w1 ho hgl hi1 hr
          subst ho
          have h : (bif v.low H.length then some (Out.pan v (H'.take H.length)) else none) = some out := h
          cases hl : v.low H.length with
          | false => rw [hl] at h; simp at h
          | true =>
            rw [hl] at h
            simp only [cond_true, Option.some.injEq] at h
            subst h
            exact uhk hi.len hgl hi1 hl hr
        refine calls_of_wp_defers hf hb ?_
        have hptr : ∀ {env : Env} {a : Act} {g1 : G} {tm : Array Value}, TOk 0 g1 env tm → ∀ t ∈ protOf fn, ∀ id off, env.getD t .undef = .ptr id off → ∃ b, g1.ι[id]? = some b ∧ tm.getD t undef = .pointer (some ⟨b, off, none⟩) := by
          intro env a g1 tm hT t _ id off he
          have := ev_tmp hT t
          rw [he] at this
          exact this.ptr
        refine u3g (c := ⟨P, protOf fn, C, CD, none, resM P fn⟩) (CDN := CD) hC rfl (fun _ _ _ => Le.refl _) (hL fn) b (u6u fn) _ (bodyPostD P fn (u3f g w out)) (g.ren upF) w out0 ulf (fun e => ?_) ?_ _ _ w (g.ren upF) H [] out0 (Glob.refl _ _) ⟨hi.ren (fun _ _ => rfl), ucz ha, True.intro⟩ hm rfl
        · -- the end of the body
          have fin : ∀ Δ o g1 H1 env a w1, resM P fn env H1 = some o → unw CD Δ o = some out0 → Glob (g.ren upF) w g1 w1 → Sta ⟨P, protOf fn, C, CD, none, resM P fn⟩ g1 H1 env a w1 Δ → Leaves P fn a.tmps (u3f g w out) a.defers .returning w1 := by
            intro Δ o g1 H1 env a w1 hk hu hgl hS
            obtain ⟨v, H', cv, g2, rfl, hrun, hi2, hgl2, hr2⟩ := umu hk hS.inv hS.tok
            have hd := hS.defs
            cases Δ with
            | nil =>
              cases hdf : a.defers with
              | cons δ ds => rw [hdf] at hd; exact hd.elim
              | nil =>
                have ho : out0 = .ok v H' := (Option.some.inj hu).symm
                exact ⟨cv, hrun, hret g2 v H' cv w1 ho (hgl.trans hgl2) hi2 hr2⟩
            | cons d Δ =>
              cases hdf : a.defers with
              | nil => rw [hdf] at hd; exact hd.elim
              | cons δ ds =>
                rw [hdf] at hd
                refine u7w hCD rfl (fun hne => u80 hne) (fun g v H cv w h1 h2 h3 h4 => hret g v H cv w h1 h2 h3 h4) Δ d δ ds (.ok v H') g2 H' w1 .returning ⟨rfl, rfl⟩ hi2 (DefsOk.step hgl2.up.ι hgl2.up.im (fun t _ id off he => he) hd) hu (hgl.trans hgl2) (fun t ht id off he => ?_)
                obtain ⟨b, hb, htv⟩ := hptr (a := a) hS.tok t ht id off he
                exact ⟨b, hgl2.up.ι _ _ hb, htv⟩
          cases e with
          | normal => exact fin
          | ret => exact fin
          | exit id => exact fun Δ o g1 H1 env a w1 hk => (u00 (H := H1) hk).elim
        · -- a panic
          intro Δ v H1 g1 env a w1 cv hu hgl hS hr
          have hd := hS.defs
          show Leaves P fn a.tmps (u3f g w out) a.defers (.panicking [{ v := cv, recovered := false }]) w1
          cases Δ with
          | nil =>
            cases hdf : a.defers with
            | cons δ ds => rw [hdf] at hd; exact hd.elim
            | nil => exact hpan g1 v H1 cv w1 (Option.some.inj hu).symm hgl hS.inv hr
          | cons d Δ =>
            cases hdf : a.defers with
            | nil => rw [hdf] at hd; exact hd.elim
            | cons δ ds =>
              rw [hdf] at hd
              exact u7w hCD rfl (fun hne => u80 hne) (fun g v H cv w h1 h2 h3 h4 => hret g v H cv w h1 h2 h3 h4) Δ d δ ds (.pan v H1) g1 H1 w1 _ ⟨rfl, cv, rfl, hr⟩ hS.inv hd hu hgl (hptr (a := a) hS.tok)
end Go.Proofs.YtiiepllnnjjmaaaDoor.Pi
namespace Go.Proofs.YtiiepllnnjjmaaaDoor.Pi
variable {P : Program} {g : G} {L L' : Owner} {w w' : World} {H : Heap} {x : Nat} {env : Env}
def slotV (env : Env) : PV := env.getD (env.length - 1) .undef
theorem ModeOk.mono {rv : Option PV} {u : FrameMode} (h : ModeOk g rv u) {g' : G} (hι : ∀ (i b : Nat), g.ι[i]? = some b → g'.ι[i]? = some b) (him : ∀ b o v, g.im b o = some v → g'.im b o = some v) : ModeOk g' rv u := by
  cases rv with
  | none => exact h
  | some p => obtain ⟨cv, h1, h2⟩ := h; exact ⟨cv, h1, h2.mono hι him⟩
theorem ubp {tm : Array Value} (hT : TOk 1 g env tm) : slotV env = .undef ∨ slotV env = .tup [] := by
  have hl := hT.len
  have h1 : env.length - 1 < env.length := by omega
  unfold slotV
  rw [List.getD_eq_getElem?_getD, List.getElem?_eq_getElem h1]
  exact hT.slot (env.length - 1) _ (by omega) (List.getElem?_eq_getElem h1)
theorem u83 {tm : Array Value} (hT : TOk 1 g env tm) (s : Option (Tmp × Option Nat)) : slotV (giveUp env s) = slotV env := by
  have hs := ubp hT
  unfold slotV at hs ⊢
  rw [u31]
  unfold giveUp
  split
  · rw [u3e]
    split
    · rename_i hh
      rw [hh.1]
      exact u6p hs
    · rfl
  · rw [u3e]
    split
    · rename_i hh
      rw [hh.1]
      exact u53 _ hs
    · rfl
  · rfl
theorem ubm {d : Nat} {v : PV} (hd : d + 1 < env.length) : slotV (env.set d v) = slotV env := by
  unfold slotV
  rw [List.length_set, u3e, if_neg (by omega)]
theorem u7p {pr : List Tmp} {d : Tmp} (h : okDst true pr env (some d) = true) : d + 1 < env.length := by
  unfold okDst at h
  simp only [Bool.and_eq_true, Bool.or_eq_true, Bool.not_eq_true', decide_eq_true_eq] at h
  rcases h.2 with h1 | h1
  · cases h1
  · exact h1
theorem ulw {rc : Option (Option PV)} {pr : List Tmp} {ops : Array Oper} {o : Oper} {v : PV} {tm : Array Value} (hT : TOk 1 g env tm) (hr : u05 o = false) (hd : okDst true pr env o.dst = true) : slotV (put rc ops env o v) = slotV env := by
  have htook : took rc o (giveUp env (given ops o)) = giveUp env (given ops o) := by
    unfold took
    simp [hr]
  unfold Pi.put
  rw [htook]
  cases hdst : o.dst with
  | none => exact u83 hT _
  | some d =>
    rw [hdst] at hd
    have h1 := u7p hd
    show slotV ((giveUp env (given ops o)).set d v) = _
    rw [ubm (by rw [u31]; exact h1)]
    exact u83 hT _
structure StaD (c : Ctx) (rv : Option PV) (u : FrameMode) (g : G) (H : Heap) (env : Env) (a : Act) (w : World) (m : FrameMode) : Prop where
  sta : Sta c g H env a w []
  mode : ModeOk g rv u
  now : m = u2q (slotV env) u
  defs : a.defers = []
theorem ua5 (a : Act) (d : Option Tmp) (v : Value) : (a.put d v).defers = a.defers := by cases d <;> rfl
theorem umf {c : Ctx} {a : Act} (h : a.defers = []) : DefsOk c g env [] a.defers := by rw [h]; exact True.intro
theorem TOk.took {tm : Array Value} (h : TOk 1 g env tm) : TOk 1 g (env.set (env.length - 1) (.tup [])) tm := by
  have hl := h.len
  refine ⟨h.one, by simp [hl], fun t v p hv hp => ?_, fun t p ht hp => ?_⟩
  · have h1 := (Array.getElem?_eq_some_iff.mp hv).1
    rw [List.getElem?_set_ne (by omega)] at hp
    exact h.val t v p hv hp
  · by_cases e : env.length - 1 = t
    · subst e
      rw [List.getElem?_set_self (by omega)] at hp
      cases hp
      exact .inr rfl
    · rw [List.getElem?_set_ne e] at hp
      exact h.slot t p ht hp
theorem ul5 {c : Ctx} {rv : Option PV} {u m : FrameMode} {a : Act} {ops : Array Oper} {o : Oper} {v : PV} {cv : Value} (hrc : c.rc = some rv) (hS : StaD c rv u g H env a w m) (hrec : u05 o = true) (hgv : given ops o = none)
    (hd : okDst true c.prot env o.dst = true) (hv : ∀ L, RepT g L v cv) : Sta c g H (put c.rc ops env o v) (a.put o.dst cv) w [] ∧ slotV (put c.rc ops env o v) = .tup [] := by
  have hT : TOk 1 g env a.tmps := by
    have := hS.sta.tok
    rw [hrc] at this
    exact this
  have hl := hT.len
  have htook : took c.rc o (giveUp env (given ops o)) = env.set (env.length - 1) (.tup []) := by
    rw [hgv, hrc]
    unfold took giveUp
    simp [hrec]
  have hs : slotV (env.set (env.length - 1) (.tup [])) = .tup [] := by
    unfold slotV
    rw [List.length_set, u3e, if_pos ⟨rfl, by omega⟩]
  have hx : xOf c.rc = 1 := by rw [hrc]; rfl
  refine ⟨⟨hS.sta.inv, ?_, by rw [ua5]; exact umf (by rw [hS.defs])⟩, ?_⟩
  · unfold Pi.put
    rw [htook, hx]
    cases hdst : o.dst with
    | none => exact hT.took
    | some d =>
      rw [hdst] at hd
      exact hT.took.put (.inr (by rw [List.length_set]; exact u7p hd)) (hv _)
  · unfold Pi.put
    rw [htook]
    cases hdst : o.dst with
    | none => exact hs
    | some d =>
      rw [hdst] at hd
      show slotV ((env.set (env.length - 1) (.tup [])).set d v) = _
      rw [ubm (by rw [List.length_set]; exact u7p hd)]
      exact hs
theorem u74 (v : PV) : u2q v .returning = .returning := by
  unfold u2q
  split <;> first | rfl | (rename_i h; cases h) | rfl
def LeafD (c : Ctx) (rv : Option PV) (u : FrameMode) (c0 : Frame) (cs0 : List Frame) (g0 : G) (w0 : World) (out : Out PV) (k : Env → M PV) (Q : Act → List Frame → World → Prop) : Prop :=
  ∀ env a w g H m, Glob g0 w0 g w → StaD c rv u g H env a w m → k env H = some out → Q a ({ c0 with mode := m } :: cs0) w
variable {c : Ctx} {rv : Option PV} {u : FrameMode} {c0 : Frame} {cs0 : List Frame} {g0 : G} {w0 : World} {v0 : PV} {H0 : Heap}
theorem u60 (hC : CSound c.P c.C) (hrc : c.rc = some rv) {ops : Array Oper} {k : Env → M PV} {Q : Exit → Act → List Frame → World → Prop} (hleaf : LeafD c rv u c0 cs0 g0 w0 (.ok v0 H0) k (Q .normal)) :
    ∀ (l : List Oper) (i : Nat) (env : Env) (a : Act) (w : World) (g : G) (H : Heap) (m : FrameMode), (∀ j, l[j]? = ops[i + j]?) → (∀ o ∈ l, u58 o = true) → Glob g0 w0 g w → StaD c rv u g H env a w m →
      dOps c ops l env k H = some (.ok v0 H0) → wpOpsS c.P ops Q (List.range' i l.length) a ({ c0 with mode := m } :: cs0) w
  | [], i, env, a, w, g, H, m, hl, hs, hgl, hS, h => hleaf env a w g H m hgl hS h
  | o :: r, i, env, a, w, g, H, m, hl, hs, hgl, hS, h => by
    have hr : ∀ j, r[j]? = ops[i + 1 + j]? := fun j => by
      have := hl (j + 1)
      rw [List.getElem?_cons_succ] at this
      rw [this]
      congr 1
      omega
    have ho : ops[i]? = some o := by
      have := hl 0
      simpa using this.symm
    have hso := hs o List.mem_cons_self
    have hsr : ∀ o ∈ r, u58 o = true := fun q hq => hs q (List.mem_cons_of_mem _ hq)
    rw [List.length_cons, u9e]
    simp only [wpOpsS, ho]
    rw [u51] at h
    obtain ⟨hok, h⟩ := u02 h
    have hok' : okDst true c.prot env o.dst = true := by
      rw [hrc] at hok
      exact hok
    have hT : TOk 1 g env a.tmps := by
      have := hS.sta.tok
      rw [hrc] at this
      exact this
    have h : M.bind (gval c.P c.C c.rc ops env o) (fun v => dOps c ops r (put c.rc ops env o v) k) H = some (.ok v0 H0) := by
      obtain ⟨dst, op, ty, pos, after, guard⟩ := o
      cases op <;> first | exact h | (simp [u58] at hso)
    unfold M.bind at h
    cases hg : gval c.P c.C c.rc ops env o H with
    | none => rw [hg] at h; simp at h
    | some o1 =>
      rw [hg] at h
      cases o1 with
      | pan v H1 => simp at h
      | ok v H1 =>
        have hnx : dOps c ops r (put c.rc ops env o v) k H1 = some (.ok v0 H0) := h
        clear h
        cases hrec : u05 o with
        | false =>
          have hst := uej (Q := fun e a w => Q e a ({ c0 with mode := m } :: cs0) w) (next := fun a w => wpOpsS c.P ops Q (List.range' (i + 1) r.length) a ({ c0 with mode := m } :: cs0) w)
            hC (.inr hrec) hS.sta hok hg (fun v' H1' g' a' w' he hgl' hS' => by
              cases he
              have hda : a'.defers = [] := by
                have := hS'.defs
                cases hd : a'.defers with
                | nil => rfl
                | cons x y => rw [hd] at this; exact this.elim
              refine u60 hC hrc hleaf r (i + 1) _ a' w' g' H1 m hr hsr (hgl.trans hgl') ⟨hS', hS.mode.mono hgl'.up.ι hgl'.up.im, ?_, hda⟩ hnx
              rw [ulw hT hrec hok']
              exact hS.now) (fun v' H1' g' w' cv he => by cases he)
          split
          · rename_i hw
            rw [if_pos hw] at hst
            unfold Oper.wp at hst
            generalize (execOp a.eval o).run c.P w = q at hst ⊢
            split
            · exact (show False from hst).elim
            · exact hst
          · rename_i hw
            rw [if_neg hw] at hst
            exact hst
        | true =>
          obtain ⟨dst, op, ty, pos, after, guard⟩ := o
          cases op with
          | call cl =>
            obtain ⟨callee, args, tys⟩ := cl
            cases callee with
            | builtin b =>
              cases b with
              | recover =>
                have hgd : guard = none := by
                  cases guard with
                  | none => rfl
                  | some q => simp [u58, hrec] at hso
                subst hgd
                have hv : v = recV c.rc env ∧ H1 = H := by
                  have hg2 : opVal c.P c.C c.rc ops env ⟨dst, .call ⟨.builtin .recover, args, tys⟩, ty, pos, after, none⟩ H = some (.ok v H1) := hg
                  rw [hrc] at hg2 ⊢
                  have hg3 : M.pure (recV (some rv) env) H = some (.ok v H1) := hg2
                  simp only [M.pure, Option.some.injEq, Out.ok.injEq] at hg3
                  exact ⟨hg3.1.symm, hg3.2.symm⟩
                obtain ⟨rfl, rfl⟩ := hv
                have hrun : (execOp a.eval ⟨dst, .call ⟨.builtin .recover, args, tys⟩, ty, pos, after, none⟩).run c.P w = .ok .recover w := rfl
                have hw : Region.wanted ⟨dst, .call ⟨.builtin .recover, args, tys⟩, ty, pos, after, none⟩ (yielded ops a.tmps) = true := rfl
                rw [if_pos hw, hrun]
                dsimp only
                have fin : ∀ (cv : Value) (m' : FrameMode), (∀ L, RepT g L (recV c.rc env) cv) → m' = u2q (.tup []) u → wpOpsS c.P ops Q (List.range' (i + 1) r.length) (a.put dst cv) ({ c0 with mode := m' } :: cs0) w := by
                  intro cv m' hv hm
                  obtain ⟨h1, h2⟩ := ul5 (ops := ops) hrc hS hrec rfl hok' hv
                  exact u60 hC hrc hleaf r (i + 1) _ _ w g H1 m' hr hsr hgl ⟨h1, hS.mode, by rw [h2]; exact hm, by rw [ua5]; exact hS.defs⟩ hnx
                have hnil : ∀ L, RepT g L .niliface .nilIface := fun L => rT (.flat .niliface) _
                have hmode := hS.mode
                have hnow := hS.now
                cases rv with
                | none =>
                  have hu : u = .returning := hmode
                  subst hu
                  rw [u74] at hnow
                  subst hnow
                  refine fin .nilIface _ (fun L => ?_) (u74 _).symm
                  rw [hrc]
                  exact hnil L
                | some p =>
                  obtain ⟨cv, rfl, hp⟩ := hmode
                  rcases ubp hT with hsl | hsl
                  · rw [hsl] at hnow
                    subst hnow
                    refine fin cv _ (fun L => ?_) rfl
                    have : recV c.rc env = p := by
                      rw [hrc]
                      unfold recV
                      show (match slotV env with | .tup [] => PV.niliface | _ => p) = p
                      rw [hsl]
                    rw [this]
                    exact rT hp L
                  · rw [hsl] at hnow
                    subst hnow
                    refine fin .nilIface _ (fun L => ?_) rfl
                    have : recV c.rc env = .niliface := by
                      rw [hrc]
                      unfold recV
                      show (match slotV env with | .tup [] => PV.niliface | _ => p) = _
                      rw [hsl]
                    rw [this]
                    exact hnil L
              | _ => cases hrec
            | _ => cases hrec
          | _ => cases hrec
theorem ukl {rc : Option (Option PV)} {pr : List Tmp} {ops : Array Oper} {o : Oper} {v : PV} (hs : slotV env = .undef ∨ slotV env = .tup []) (hr : u05 o = false) (hd : okDst true pr env o.dst = true) : slotV (put rc ops env o v) = slotV env := by
  have hg : slotV (giveUp env (given ops o)) = slotV env := by
    unfold slotV at hs ⊢
    rw [u31]
    unfold giveUp
    split
    · rw [u3e]
      split
      · rename_i hh
        rw [hh.1]
        exact u6p hs
      · rfl
    · rw [u3e]
      split
      · rename_i hh
        rw [hh.1]
        exact u53 _ hs
      · rfl
    · rfl
  have htook : took rc o (giveUp env (given ops o)) = giveUp env (given ops o) := by
    unfold took
    simp [hr]
  unfold Pi.put
  rw [htook]
  cases hdst : o.dst with
  | none => exact hg
  | some d =>
    rw [hdst] at hd
    have h1 := u7p hd
    show slotV ((giveUp env (given ops o)).set d v) = _
    rw [ubm (by rw [u31]; exact h1)]
    exact hg
theorem u46 (hC : CSound c.P c.C) (hrc : c.rc = some rv) {LL : LoopT} :
    ∀ (co : Code) (af : List Tmp) (k : K) (Q : Exit → Act → List Frame → World → Prop), u3k co = true → (∀ e, LeafD c rv u c0 cs0 g0 w0 (.ok v0 H0) (k e) (Q e.to)) →
      ∀ env a w g H m, Glob g0 w0 g w → StaD c rv u g H env a w m → den c LL af co env k H = some (.ok v0 H0) → co.wpS c.P Q a ({ c0 with mode := m } :: cs0) w
  | .skip, af, k, Q, hs, hk, env, a, w, g, H, m, hgl, hS, h => wpS_of_wp (wp_skip (hk .normal env a w g H m hgl hS h))
  | .ret, af, k, Q, hs, hk, env, a, w, g, H, m, hgl, hS, h => wpS_of_wp (wp_ret (hk .ret env a w g H m hgl hS h))
  | .region id ops false, af, k, Q, hs, hk, env, a, w, g, H, m, hgl, hS, h => by
    refine wpS_region ?_
    have hs' : ∀ o ∈ ops.toList, u58 o = true := fun o ho => List.all_eq_true.mp hs o ho
    have := u60 (Q := Q) hC hrc (hk .normal) ops.toList 0 env a w g H m (fun j => by simp) hs' hgl hS h
    rwa [List.range_eq_range', ← Array.length_toList]
  | .region id ops true, af, k, Q, hs, hk, env, a, w, g, H, m, hgl, hS, h => by
    have h : guardM (c.P.follows .mixedOrders && commB ops) (bif modeA ops && (c.rc.isNone && c.prot.isEmpty) then dOpsAA c ops env (k .normal) else bif modeP ops && c.rc.isNone then dOpsP c ops env (k .normal) else bif ops.any u0z || c.rc.isSome then dOpsW c ops 0 [] ops.toList env (k .normal) else dOpsN c ops ops.toList env (k .normal)) H = some (.ok v0 H0) := h
    obtain ⟨hg, h⟩ := u02 h
    simp only [Bool.and_eq_true] at hg
    have hbr : (ops.any u0z || c.rc.isSome) = true := by rw [hrc]; simp
    have hbp : (modeP ops && c.rc.isNone) = false := by rw [hrc]; simp
    have hba : (modeA ops && (c.rc.isNone && c.prot.isEmpty)) = false := by rw [hrc]; simp
    rw [hba, hbp, hbr] at h
    have hT : TOk 1 g env a.tmps := by
      have := hS.sta.tok
      rw [hrc] at this
      exact this
    obtain ⟨e', H', L, l1, _, l3, l4, hk'⟩ := ueo ops.toList [] 0 env H (fun j => by simp) h
    refine wpS_of_wp (wp_region_any hg.1 (u43 (c := c) (Q := fun e a w => Q e a ({ c0 with mode := m } :: cs0) w) hC hg.2 (R := fun l e K => slotV e = slotV env ∧ RW c ops e' H' l e K) (Δ := []) (g0 := g) (w0 := w)
      (fun A i B oi e K hi ha hnb hR => ?_) (fun e K g' a' w' hR hgl' hS' => ?_) ops.size _ env H a _ g (by simp) ?_ ?_ ?_ (u48 g w) hS.sta.drew))
    · obtain ⟨r1, r2⟩ := hR
      obtain ⟨h1, v, H1, h2, h3⟩ := RW.front hg.2 A i B oi e K hi ha hnb r2
      refine ⟨h1, v, H1, h2, ?_, h3⟩
      rw [hrc] at h1
      rw [ukl (by rw [r1]; exact ubp hT) (u1m hg.2 hi).1 h1, r1]
    · obtain ⟨r1, r2⟩ := hR
      obtain ⟨rfl, rfl⟩ := r2.nil
      refine hk .normal e a' w' g' K m (hgl.trans hgl') ⟨hS', hS.mode.mono hgl'.up.ι hgl'.up.im, by rw [r1]; exact hS.now, ?_⟩ hk'
      have := hS'.defs
      cases hd : a'.defers with
      | nil => rfl
      | cons x y => rw [hd] at this; exact this.elim
    · exact Nat.le_trans (List.length_filter_le _ _) (by simp)
    · intro j i hj hl
      simp [Array.getD_eq_getD_getElem?, hj] at hl
    · refine ⟨rfl, ?_⟩
      have hall : restOf ops (Array.replicate ops.size false) = List.range' 0 ops.toList.length := by
        unfold restOf
        rw [List.filter_eq_self.mpr, List.range_eq_range', Array.length_toList]
        intro i hi
        simp [Array.getD_eq_getD_getElem?, List.mem_range.mp hi]
      rw [hall]
      exact ⟨L, l1, l3, l4⟩
  | .seq y z, af, k, Q, hs, hk, env, a, w, g, H, m, hgl, hS, h => by
    have hs1 : u3k y = true ∧ u3k z = true := by simpa [u3k] using hs
    refine wpS_seq (u46 hC hrc y ((rw z).1 ++ af) _ (Exit.thenS (z.wpS c.P Q) Q) hs1.1 (fun e => ?_) env a w g H m hgl hS h)
    cases e with
    | normal =>
      intro env a w g H m hgl hS h
      have h : (bif c.rc.isNone && joinB y then LL af z (keep ((rw z).1 ++ af) env) k else den c LL af z env k) H = some (.ok v0 H0) := h
      rw [hrc] at h
      exact u46 hC hrc z af k Q hs1.2 hk env a w g H m hgl hS h
    | exit id => exact hk (.exit id)
    | ret => exact hk .ret
  | .cond q y z, af, k, Q, hs, hk, env, a, w, g, H, m, hgl, hS, h => by
    have hs1 : u3k y = true ∧ u3k z = true := by simpa [u3k] using hs
    have rq := ev_rep hS.sta.inv hS.sta.tok q
    have h : condM (ev env q) (den c LL af y env k) (den c LL af z env k) H = some (.ok v0 H0) := h
    unfold condM at h
    cases hv : ev env q with
    | bool b =>
      rw [hv] at h rq
      have hq := rq.bool
      dsimp only at h
      refine wpS_cond hq ?_
      cases b
      · exact u46 hC hrc z af k Q hs1.2 hk env a w g H m hgl hS h
      · exact u46 hC hrc y af k Q hs1.1 hk env a w g H m hgl hS h
    | _ => (rw [hv] at h; exact (u00 (H := H) h).elim)
theorem TOk.slotted {tm : Array Value} (h : TOk 0 g env tm) : TOk 1 g (env ++ [.undef]) tm := by
  have hl := h.len
  refine ⟨Nat.le_refl 1, by simp [hl], fun t v p hv hp => ?_, fun t p ht hp => ?_⟩
  · have h1 := (Array.getElem?_eq_some_iff.mp hv).1
    rw [List.getElem?_append_left (by omega)] at hp
    exact h.val t v p hv hp
  · rw [List.getElem?_append_right (by omega)] at hp
    have := List.mem_of_getElem? hp
    exact .inl (by simpa using this)
theorem uhm {m : M PV} {o : Out PV} (h : noPan m H = some o) : ∃ v H', o = .ok v H' ∧ m H = some (.ok v H') := by
  unfold noPan at h
  split at h
  · rename_i v H' hm
    cases h
    exact ⟨v, H', rfl, hm⟩
  · cases h
theorem ul0 {m : M PV} {v : PV} {H' : Heap} (h : trunc m H = some (.ok v H')) : ∃ H1, m H = some (.ok v H1) ∧ H' = bif v.low H.length then H1.take H.length else H1 := by
  unfold trunc at h
  split at h
  · cases h
  · rename_i v1 H1 hm
    cases h
    exact ⟨H1, hm, rfl⟩
  · rename_i v1 H1 hm
    cases hl : v1.low H.length <;> rw [hl] at h <;> cases h
theorem uef {C : CallT} {CD : Option PV → CallT} {LL : Option (Option PV) → List Tmp → (Env → M PV) → LoopT} (hC : CSound P C) {rv : Option PV} {f : FuncId} {args : List PV} {out : Out PV} (h : fnDenD P C CD LL rv f args H = some out) :
    u3n P f = true ∧ ∃ v H', out = .ok v H' ∧ ∀ g w cargs u, Inv g H w → ArgsOk g args cargs → ModeOk g rv u →
      CallsD P f cargs u w fun e u' w' => ∃ g' cv, Glob g w g' w' ∧ Grow u3z g g' ∧ e = .returned cv ∧ Inv g' H' w' ∧ u' = u2q v u := by
  unfold fnDenD at h
  cases hf : P.funcs[f]? with
  | none => rw [hf] at h; exact (u00 (H := H) h).elim
  | some fn =>
    rw [hf] at h
    dsimp only at h
    cases hb : fn.body with
    | none => rw [hb] at h; exact (u00 (H := H) h).elim
    | some b =>
      rw [hb] at h
      dsimp only at h
      obtain ⟨hn, h⟩ := u02 h
      simp only [Bool.and_eq_true] at hn
      obtain ⟨hsb, hre, hn⟩ := hn
      obtain ⟨v, H', rfl, h2⟩ := uhm h
      obtain ⟨H1, h3, rfl⟩ := ul0 h2
      refine ⟨by unfold u3n; rw [hf]; simp only [hn, hb]; rfl, v, _, rfl, fun g w cargs u hi ha hm => ?_⟩
      refine callsD_of_wpS hf hb fun c₀ cs hu => ?_
      have hend : ∀ (env : Env) (a : Act) (w1 : World) (g1 : G) (H2 : Heap) (m : FrameMode), Glob (g.ren upF) w g1 w1 → StaD ⟨P, protOf fn, C, CD, some rv, resM P fn⟩ rv u g1 H2 env a w1 m → M.pure (env.getD (env.length - 1) .undef) H2 = some (.ok v H1) →
          a.defers = [] ∧ ∃ u', ({ c₀ with mode := m } : Frame) :: cs = { c₀ with mode := u' } :: cs ∧ ∃ vv, (results fn a.tmps).run P w1 = .ok vv w1 ∧ ∃ g' cv, Glob g w g' w1 ∧ Grow u3z g g' ∧ Ending.returned vv = .returned cv ∧ Inv g' (bif v.low H.length then H1.take H.length else H1) w1 ∧ u' = u2q v u := by
        intro env a w1 g1 H2 m hgl hS hp
        simp only [M.pure, Option.some.injEq, Out.ok.injEq] at hp
        obtain ⟨hv, rfl⟩ := hp
        have hrs : (results fn a.tmps).run P w1 = .ok (.tuple #[]) w1 := by
          have he : fn.results.toList = [] := by
            have : fn.results = #[] := by simpa using hre
            rw [this]
          have := u8a (P := P) (w := w1) (fn := fn) (tm := a.tmps) (vs := []) (by rw [he]; rfl)
          simpa using this
        have hsl : v = .undef ∨ v = .tup [] := by
          have := ubp (hS.sta.tok : TOk 1 g1 env a.tmps)
          rw [← hv]
          exact this
        have hrep : RepT g1 .res v (.tuple #[]) := by
          rcases hsl with rfl | rfl
          · exact .one (.undef _)
          · exact .tup rfl fun j p q hp => by simp at hp
        obtain ⟨g', h1, h2, cv, h3, h4, h5⟩ := uj4 hi.len hgl hS.sta.inv hrep
        refine ⟨hS.defs, m, rfl, _, hrs, g', cv, h1, h2, h3, h4, ?_⟩
        rw [hS.now, ← hv]
        rfl
      have hst : StaD ⟨P, protOf fn, C, CD, some rv, resM P fn⟩ rv u (g.ren upF) H (args ++ List.replicate (fn.ntmps - args.length) .undef ++ [.undef]) { tmps := cargs ++ Array.replicate (fn.ntmps - cargs.size) undef, defers := [] } w u := by
        refine ⟨⟨hi.ren (fun _ _ => rfl), (ucz ha).slotted, True.intro⟩, hm.mono (fun _ _ h => h) (fun _ _ _ h => h), ?_, rfl⟩
        have : slotV (args ++ List.replicate (fn.ntmps - args.length) .undef ++ [.undef]) = .undef := by
          unfold slotV
          simp
        rw [this]
        unfold u2q
        split <;> first | rfl | (rename_i h; cases h)
      have := u46 (c := ⟨P, protOf fn, C, CD, some rv, resM P fn⟩) (u := u) (c0 := c₀) (cs0 := cs) (g0 := g.ren upF) (w0 := w) hC rfl b (fn.ntmps :: u6u fn) _ (bodyPostS P fn c₀ cs fun e u' w' => ∃ g' cv, Glob g w g' w' ∧ Grow u3z g g' ∧ e = .returned cv ∧ Inv g' (bif v.low H.length then H1.take H.length else H1) w' ∧ u' = u2q v u) hsb (fun e => ?_) _ _ w (g.ren upF) H u (Glob.refl _ _) hst h3
      · have e : ({ c₀ with mode := u } : Frame) = c₀ := by rw [← hu]
        rw [e] at this
        exact this
      · cases e with
        | normal => exact fun env a w g H m hgl hS h => hend env a w g H m hgl hS h
        | ret => exact fun env a w g H m hgl hS h => hend env a w g H m hgl hS h
        | exit id => exact fun env a w g H m hgl hS h => (u00 (H := H) h).elim
end Go.Proofs.YtiiepllnnjjmaaaDoor.Pi
namespace Go.Proofs.YtiiepllnnjjmaaaDoor.Pi
variable {P : Program} {X : ExtT} {H : Heap}
def XSound (P : Program) (X : ExtT) : Prop :=
  ∀ f m, X f = some m → ∀ args H out, m args H = some out → u3n P f = true ∧ ∀ g w cargs, Inv g H w → ArgsOk g args cargs → Calls P f cargs w (u3f g w out)
theorem ukg (hX : XSound P X) (n : Nat) : CSound P (sem P X n).C ∧ uer P (sem P X n).CD := by
  induction n using Nat.strongRecOn with
  | _ n ih =>
    cases n with
    | zero => exact ⟨fun f args H out h => (u00 (H := H) h).elim, fun rv f args H out h => (u00 (H := H) h).elim⟩
    | succ n =>
      have hn := ih n (Nat.lt_succ_self n)
      refine ⟨fun f args H out h => ?_, fun rv f args H out h => uef hn.1 h⟩
      have h : (match X f with | some m => m args | none => fnDen P (sem P X n).C (sem P X n).CD (sem P X n).L f args) H = some out := h
      cases hf : X f with
      | some m => rw [hf] at h; exact hX f m hf args H out h
      | none =>
        rw [hf] at h
        exact uey hn.1 hn.2 (fun fn => uhv n (fun m hm => (ih m (by omega)).1) _ _ _ (fun m hm r f a => uip m r f a (by omega)) n (Nat.le_refl n)) h
theorem uf1 (hX : XSound P X) : CSound P (callW P X) := by
  intro f args H out h
  obtain ⟨n, hn⟩ := ((ubo P X f args).lim H out).mp h
  exact (ukg hX n).1 f args H out hn
theorem noX : XSound P (fun _ => none) := fun f m h => by cases h
end Go.Proofs.YtiiepllnnjjmaaaDoor.Pi
namespace Go.Proofs.YtiiepllnnjjmaaaDoor.Pi
noncomputable def kAt (c : Ctx) (L : LoopT) : List Nat → List Tmp → Code → K → List Tmp × Code × K
  | [], af, co, k => (af, co, k)
  | 0 :: p, af, .seq a b, k => kAt c L p ((rw b).1 ++ af) a fun
    | .normal, env' => bif c.rc.isNone && joinB a then L af b (keep ((rw b).1 ++ af) env') k else den c L af b env' k
    | e, env' => k e env'
  | _ :: p, af, .seq a b, k => kAt c L p af b k
  | 0 :: p, af, .cond _ a b, k => kAt c L p af a k
  | _ :: p, af, .cond _ a b, k => kAt c L p af b k
  | _ :: p, af, .block id b, k => kAt c L p af b fun
    | .exit i, env' => bif i == id then k .normal env' else k (.exit i) env'
    | e, env' => k e env'
  | _ :: p, af, .loop b, k => kAt c L p (alive af b) b fun
    | .normal, env' => L af (.loop b) (keep (alive af b) env') k
    | e, env' => k e env'
  | _, af, co, k => (af, co, k)
section
variable (P : Program) (X : ExtT)
noncomputable def kOf (f : FuncId) (p : List Nat) : List Tmp × Code × K :=
  match P.funcs[f]? with
  | some fn => match fn.body with
    | some b => kAt (ctxW P X none (protOf fn) (resM P fn)) (loopW P X none (protOf fn) (resM P fn)) p (u6u fn) b fun
      | .exit _, _ => M.fail
      | _, env => resM P fn env
    | none => ([], .skip, fun _ _ => M.fail)
  | none => ([], .skip, fun _ _ => M.fail)
noncomputable def ctxOf (f : FuncId) : Ctx :=
  match P.funcs[f]? with
  | some fn => ctxW P X none (protOf fn) (resM P fn)
  | none => ctxW P X none [] (fun _ => M.fail)
noncomputable def atP (f : FuncId) (p : List Nat) (env : Env) : M PV :=
  loopW P X none (ctxOf P X f).prot (ctxOf P X f).res (kOf P X f p).1 (kOf P X f p).2.1 env (kOf P X f p).2.2
noncomputable def stepP (f : FuncId) (p : List Nat) (env : Env) : M PV :=
  go1 (ctxW P X none (ctxOf P X f).prot (ctxOf P X f).res) (loopW P X none (ctxOf P X f).prot (ctxOf P X f).res) (kOf P X f p).1 (kOf P X f p).2.1 env (kOf P X f p).2.2
theorem u0n (f : FuncId) (p : List Nat) (env : Env) : atP P X f p env = stepP P X f p env := ul9 P X none _ _ _ _ _ _
def mkEnv : Nat → Nat → List (Nat × PV) → Env
  | 0, _, _ => []
  | n + 1, i, (j, v) :: r => bif i == j then v :: mkEnv n (i + 1) r else .undef :: mkEnv n (i + 1) ((j, v) :: r)
  | n + 1, i, [] => .undef :: mkEnv n (i + 1) []
end
end Go.Proofs.YtiiepllnnjjmaaaDoor.Pi
namespace Go.Proofs.YtiiepllnnjjmaaaDoor.Pi
theorem nrfl {γ : Sort _} {a b : γ} (h : a = b) : a = b := h
variable {α β : Type} {H : Heap} {k : IntKind} {a b n m : Int} {x y : PV} {ek : EqK}
@[simp] theorem udi : strip (.int k n) = .int k n := nrfl rfl
@[simp] theorem uae {t : Bool} : strip (.bool t) = .bool t := nrfl rfl
@[simp] theorem ucp {s : ByteArray} : strip (.str s) = .str s := nrfl rfl
@[simp] theorem u9t {o z : Bool} {sz : Nat} {xs : List PV} : strip (.slice o z sz xs) = .slice false z sz xs := nrfl rfl
@[simp] theorem udw {i o : Nat} : strip (.ptr i o) = .ptr i o := nrfl rfl
@[simp] theorem uc5 {cs : List PV} : strip (.agg cs) = .agg cs := nrfl rfl
@[simp] theorem ua1 {cs : List PV} : strip (.elem cs) = .elem cs := nrfl rfl
@[simp] theorem ucs : strip .nil = .nil := nrfl rfl
@[simp] theorem u5p : strip .niliface = .niliface := nrfl rfl
@[simp] theorem u99 {t : TypeId} {v : PV} : strip (.iface t v) = .iface t v := nrfl rfl
@[simp] theorem ufn {f : FuncId} {u v : List PV} : strip (.fn f u v) = .fn f u v := nrfl rfl
@[simp] theorem u81 : strip .undef = .undef := nrfl rfl
@[simp] theorem ucq {vs : List PV} : strip (.tup vs) = .tup (vs.map stripC) := nrfl rfl
@[simp] theorem uau : stripC (.int k n) = .int k n := nrfl rfl
@[simp] theorem u8k {t : Bool} : stripC (.bool t) = .bool t := nrfl rfl
@[simp] theorem uaa {s : ByteArray} : stripC (.str s) = .str s := nrfl rfl
@[simp] theorem u72 {o z : Bool} {sz : Nat} {xs : List PV} : stripC (.slice o z sz xs) = .slice false z sz xs := nrfl rfl
@[simp] theorem ua7 {i o : Nat} : stripC (.ptr i o) = .ptr i o := nrfl rfl
@[simp] theorem u9z {cs : List PV} : stripC (.agg cs) = .agg cs := nrfl rfl
@[simp] theorem uaf : stripC .nil = .nil := nrfl rfl
@[simp] theorem u54 : stripC .niliface = .niliface := nrfl rfl
@[simp] theorem u7c {t : TypeId} {v : PV} : stripC (.iface t v) = .iface t v := nrfl rfl
@[simp] theorem udg {f : FuncId} {u v : List PV} : stripC (.fn f u v) = .fn f u v := nrfl rfl
@[simp] theorem bi_add : bi .add ek (.int k a) (.int k b) = M.pure (.int k (k.wrap (a + b))) := nrfl (by cases k <;> rfl)
@[simp] theorem bi_sub : bi .sub ek (.int k a) (.int k b) = M.pure (.int k (k.wrap (a - b))) := nrfl (by cases k <;> rfl)
@[simp] theorem bi_mul : bi .mul ek (.int k a) (.int k b) = M.pure (.int k (k.wrap (a * b))) := nrfl (by cases k <;> rfl)
@[simp] theorem bi_eql : bi .eql ek (.int k a) (.int k b) = M.pure (.bool (a == b)) := nrfl (by cases k <;> rfl)
@[simp] theorem bi_neq : bi .neq ek (.int k a) (.int k b) = M.pure (.bool (a != b)) := nrfl (by cases k <;> rfl)
@[simp] theorem bi_lss : bi .lss ek (.int k a) (.int k b) = M.pure (.bool (decide (a < b))) := nrfl (by cases k <;> rfl)
@[simp] theorem bi_leq : bi .leq ek (.int k a) (.int k b) = M.pure (.bool (decide (a ≤ b))) := nrfl (by cases k <;> rfl)
@[simp] theorem bi_gtr : bi .gtr ek (.int k a) (.int k b) = M.pure (.bool (decide (a > b))) := nrfl (by cases k <;> rfl)
@[simp] theorem bi_geq : bi .geq ek (.int k a) (.int k b) = M.pure (.bool (decide (a ≥ b))) := nrfl (by cases k <;> rfl)
@[simp] theorem uit {s t : ByteArray} : bi .eql ek (.str s) (.str t) = M.pure (.bool (s.toList == t.toList)) := nrfl rfl
@[simp] theorem ujr {s t : ByteArray} : bi .neq ek (.str s) (.str t) = M.pure (.bool (!(s.toList == t.toList))) := nrfl rfl
@[simp] theorem ujl {s t : Bool} : bi .eql .bool (.bool s) (.bool t) = M.pure (.bool (s == t)) := nrfl rfl
@[simp] theorem ujo {s t : Bool} : bi .neq .bool (.bool s) (.bool t) = M.pure (.bool (!(s == t))) := nrfl rfl
@[simp] theorem un_not {t : Bool} : un .not (.bool t) = M.pure (.bool (!t)) := nrfl rfl
@[simp] theorem ubz {o z : Bool} {sz : Nat} {xs : List PV} : lnL (.slice o z sz xs) = M.pure (.int .i64 xs.length) := nrfl rfl
@[simp] theorem uj0 {s : ByteArray} : lnS (.str s) = M.pure (.int .i64 s.size) := nrfl rfl
@[simp] theorem mx_int : mx (.int k a) (.int k b) = M.pure (.int k (if b > a then b else a)) := nrfl (by cases k <;> rfl)
@[simp] theorem mn_int : mn (.int k a) (.int k b) = M.pure (.int k (if b < a then b else a)) := nrfl (by cases k <;> rfl)
@[simp] theorem cv_int {o : Bool} {j : IntKind} : cv (.int k) o (.int j n) = M.pure (.int k (k.wrap n)) := nrfl rfl
@[simp] theorem un2 {v : PV} {r : List PV} : ex 0 (.tup (v :: r)) = M.pure v := nrfl rfl
@[simp] theorem un4 {u v : PV} {r : List PV} : ex 1 (.tup (u :: v :: r)) = M.pure v := nrfl rfl
@[simp] theorem un3 {t u v : PV} {r : List PV} : ex 2 (.tup (t :: u :: v :: r)) = M.pure v := nrfl rfl
end Go.Proofs.YtiiepllnnjjmaaaDoor.Pi
namespace Go.Proofs.YtiiepllnnjjmaaaDoor.Pi
variable {P : Program} {X : ExtT}
def gOf (im : Nat → Nat → Option Value) : G := ⟨[], im, fun _ => none⟩
theorem umt {im : Nat → Nat → Option Value} {w : World} (him : ∀ b o v, im b o = some v → w.cell? ⟨b, o, none⟩ = some v) (hg : GlobOk im) : Inv (gOf im) [] w :=
  ⟨rfl, fun i j b h => by simp [gOf] at h, him, fun b L s h => by simp [gOf] at h, fun id b y h => by simp [gOf] at h, hg⟩
theorem walk_law (hX : XSound P X) {f : FuncId} {args : List PV} {H' : Heap} (h : callW P X f args [] = some (.ok (.bool true) H')) {im : Nat → Nat → Option Value} {w : World} {cargs : Array Value}
    (him : ∀ b o v, im b o = some v → w.cell? ⟨b, o, none⟩ = some v) (ha : ArgsOk (gOf im) args cargs) (hg : GlobOk im) : Calls P f cargs w fun e w' => e = .returned (.bool true) ∧ RowKit.Below w.heap.size w w' := by
  obtain ⟨_, hs⟩ := uf1 hX f args [] _ h
  refine (hs (gOf im) w cargs (umt him hg) ha).mono ?_
  rintro e w' ⟨g', hgl, hgr, cv, rfl, hi, hr⟩
  have hv : cv = .bool true := by
    cases hr with
    | one hr => cases hr with
      | pure hr => cases hr with
        | flat hr => cases hr; rfl
  subst hv
  exact ⟨rfl, hgl.os, hgl.tape, hgl.output, hgl.size, fun k hk => (hgl.old k hk rfl (by simp [gOf])).2.2⟩
end Go.Proofs.YtiiepllnnjjmaaaDoor.Pi
namespace Go.Proofs.YtiiepllnnjjmaaaDoor.Pi
variable {α β : Type} {H : Heap} {k j : IntKind} {a b n m : Int} {x y : PV} {ek : EqK}
def resT (v : PV) (m : M PV) : M PV := bif isTup v then M.fail else m
def hget (H : Heap) (id : Nat) : Option Box := H[id]?
def hset (H : Heap) (id : Nat) (b : Box) : Heap := H.set id b
def hadd (H : Heap) (L : List Box) : Heap := H ++ L
def hcut (H : Heap) (n : Nat) : Heap := H.take n
abbrev hlen (H : Heap) : Nat := List.length H
def run (m : M α) (H : Heap) : Option (Out α) := m H
def bindR (r : Option (Out α)) (f : α → M β) : Option (Out β) :=
  match r with
  | none => none
  | some (.ok v H) => run (f v) H
  | some (.pan v H) => some (.pan v H)
def truncR (H : Heap) (r : Option (Out PV)) : Option (Out PV) :=
  match r with
  | none => none
  | some (.ok v H') => some (.ok v (bif v.low H.length then hcut H' H.length else H'))
  | some (.pan v H') => bif v.low H.length then some (.pan v (hcut H' H.length)) else none
noncomputable def nbR (H : Heap) (r : Option (Out α)) (f : α → M β) : Option (Out β) := nb (fun _ => r) f H
@[congr] theorem umm {r r' : Option (Out α)} {f : α → M β} (h : r = r') : bindR r f = bindR r' f := by rw [h]
@[congr] theorem un0 {r r' : Option (Out α)} {f : α → M β} (h : r = r') : nbR H r f = nbR H r' f := by rw [h]
@[congr] theorem ums {c c' : PV} {x y : M α} (h : c = c') : condM c x y = condM c' x y := by rw [h]
@[congr] theorem um5 {c c' : Bool} {x : M α} (h : c = c') : guardM c x = guardM c' x := by rw [h]
@[congr] theorem umy {c c' : PV} {x : M PV} (h : c = c') : resT c x = resT c' x := by rw [h]
theorem run_bind {m : M α} {f : α → M β} : run (M.bind m f) H = bindR (run m H) f := nrfl rfl
theorem uhf {f : α → M β} {v : α} {H : Heap} : bindR (some (.ok v H)) f = run (f v) H := nrfl rfl
theorem uac {f : α → M β} : bindR none f = none := nrfl rfl
theorem ue0 {f : α → M β} {v : PV} {H : Heap} : bindR (some (.pan v H)) f = some (.pan v H) := nrfl rfl
theorem uc2 {c : Prop} [Decidable c] {r r' : Option (Out α)} {f : α → M β} : bindR (if c then r else r') f = if c then bindR r f else bindR r' f := by split <;> rfl
theorem run_nb {m : M α} {f : α → M β} : run (nb m f) H = nbR H (run m H) f := nrfl rfl
theorem nbR_ok {f : α → M β} {v : α} : nbR H (some (.ok v H)) f = run (f v) H := by simp [nbR, nb, run]
theorem ui8 {c : Prop} [Decidable c] {r r' : Option (Out α)} {f : α → M β} : nbR H (if c then r else r') f = if c then nbR H r f else nbR H r' f := by split <;> rfl
theorem u9q {m : M PV} : run (trunc m) H = truncR H (run m H) := nrfl rfl
theorem uag {c : Prop} [Decidable c] {r r' : Option (Out PV)} : truncR H (if c then r else r') = if c then truncR H r else truncR H r' := by split <;> rfl
theorem u8w : truncR H none = none := nrfl rfl
theorem uce {v : PV} {H' : Heap} : truncR H (some (.ok v H')) = some (.ok v (if v.low H.length = true then hcut H' H.length else H')) := by
  show some (Out.ok v (bif v.low H.length then hcut H' H.length else H')) = _
  cases v.low H.length <;> rfl
theorem u6s {v : PV} {H' : Heap} : truncR H (some (.pan v H')) = if v.low H.length = true then some (.pan v (hcut H' H.length)) else none := by
  show (bif v.low H.length then some (Out.pan v (hcut H' H.length)) else none) = _
  cases v.low H.length <;> rfl
theorem uc7 {c : Bool} {m : M α} : run (guardM c m) H = if c = true then run m H else none := by cases c <;> rfl
theorem uhg {v : PV} {m : M PV} : run (resT v m) H = if isTup v = true then none else run m H := by unfold resT; cases isTup v <;> rfl
theorem uh5 {c : Bool} {x y : M α} : run (condM (.bool c) x y) H = if c = true then run x H else run y H := by cases c <;> rfl
theorem ui9 {c : Bool} {m : M PV} : run (gd (.bool c) true m) H = if c = true then run m H else some (.ok (.tup []) H) := by cases c <;> rfl
theorem uj3 {c : Bool} {m : M PV} : run (gd (.bool c) false m) H = if c = true then some (.ok (.tup []) H) else run m H := by cases c <;> rfl
theorem uaq : strip (.tup []) = .tup [] := nrfl rfl
theorem uk6 {b : Bool} {m : M PV} : run (gd (.tup []) b m) H = some (.ok (.tup []) H) := nrfl rfl
theorem ug7 {c : Bool} : run (pick (.bool c) x y) H = if c = true then some (.ok (strip x) H) else some (.ok (strip y) H) := by cases c <;> rfl
theorem run_pure {v : α} : run (M.pure v) H = some (.ok v H) := nrfl rfl
theorem ujp {v : PV} : run (M.pan v : M α) H = some (.pan v H) := nrfl rfl
theorem uh9 : run (M.fail : M α) H = none := nrfl rfl
theorem run_al {cs : List PV} : run (al cs) H = if cs.all isCell = true then some (.ok (.ptr H.length 0) (hadd H [.cells cs])) else none := by unfold run al; cases cs.all isCell <;> rfl
theorem run_bx {n : Nat} {v : PV} : run (bx n v) H = if (v.cells.map stripC).length = n ∧ lowL (H.length + 1) (v.cells.map stripC) = true ∧ v.cells.all isCell = true then some (.ok (.ptr H.length 0) (hadd H [.cells (v.cells.map stripC)])) else none := by
  unfold run bx
  cases h1 : ((v.cells.map stripC).length == n) <;> cases h2 : lowL (H.length + 1) (v.cells.map stripC) <;> cases h3 : v.cells.all isCell <;> simp_all [hadd]
theorem u5r (a b : Nat) : (a == b) = decide (a = b) := by rw [Bool.eq_iff_iff]; simp
def ldB (n : Option Nat) (mv : Bool) (id o : Nat) (H : Heap) : Option Box → Option (Out PV)
  | some (.cells cs) => match n with
      | none => match cs[o]? with
        | some v => bif mv then some (.ok v (hset H id (.cells (cs.set o (stripC v))))) else some (.ok (stripC v) H)
        | none => none
      | some n => bif decide (o + n ≤ cs.length) then some (.ok (.agg (((cs.drop o).take n).map stripC)) H) else none
  | _ => none
theorem run_ld {n : Option Nat} {mv : Bool} {id o : Nat} : run (ld n mv (.ptr id o)) H = ldB n mv id o H (hget H id) := by
  unfold run ld ldB
  rfl
def stB (n : Nat) (mv : Bool) (id o : Nat) (v : PV) (H : Heap) : Option Box → Option (Out PV)
  | some (.cells cs) => bif v.cells.length == n && (decide (o + n ≤ cs.length) && (lowL (id + 1) v.cells && v.cells.all isCell)) then
        some (.ok .undef (hset H id (.cells (fillAt o (bif mv then v.cells else v.cells.map stripC) cs))))
      else none
  | _ => none
theorem run_st {n : Nat} {mv : Bool} {id o : Nat} {v : PV} : run (st n mv (.ptr id o) v) H = stB n mv id o v H (hget H id) := by
  unfold run st stB
  rfl
theorem ugk {n : Nat} {mv : Bool} {id o : Nat} {cs : List PV} : ldB (some n) mv id o H (some (.cells cs)) = if o + n ≤ cs.length then some (.ok (.agg (((cs.drop o).take n).map stripC)) H) else none := by
  show (bif decide (o + n ≤ cs.length) then some (Out.ok (PV.agg (((cs.drop o).take n).map stripC)) H) else none) = _
  by_cases h : o + n ≤ cs.length <;> simp [h]
def nth : List α → Nat → Option α
  | [], _ => none
  | v :: _, 0 => some v
  | _ :: r, n + 1 => nth r n
theorem ufv {v : α} {r : List α} : nth (v :: r) 0 = some v := nrfl rfl
theorem ufr {v : α} {r : List α} {n : Nat} : nth (v :: r) (n + 1) = nth r n := nrfl rfl
theorem nth_is : ∀ (l : List α) (n : Nat), l[n]? = nth l n
  | [], _ => rfl
  | _ :: _, 0 => rfl
  | _ :: r, n + 1 => nth_is r n
def ldTR (H : Heap) (id : Nat) (cs : List PV) (o : Nat) : Option PV → Option (Out PV)
  | some v => some (.ok v (hset H id (.cells (cs.set o (stripC v)))))
  | none => none
def ldFR (H : Heap) : Option PV → Option (Out PV)
  | some v => some (.ok (stripC v) H)
  | none => none
theorem ud9 {id : Nat} {cs : List PV} {o : Nat} {v : PV} : ldTR H id cs o (some v) = some (.ok v (hset H id (.cells (cs.set o (stripC v))))) := nrfl rfl
theorem ud0 {v : PV} : ldFR H (some v) = some (.ok (stripC v) H) := nrfl rfl
theorem ldB_t {id o : Nat} {cs : List PV} : ldB none true id o H (some (.cells cs)) = ldTR H id cs o (nth cs o) := by
  rw [← nth_is]; rfl
theorem ldB_f {id o : Nat} {cs : List PV} : ldB none false id o H (some (.cells cs)) = ldFR H (nth cs o) := by
  rw [← nth_is]; rfl
theorem stB_is {n : Nat} {mv : Bool} {id o : Nat} {v : PV} {cs : List PV} :
    stB n mv id o v H (some (.cells cs)) = if v.cells.length = n ∧ o + n ≤ cs.length ∧ lowL (id + 1) v.cells = true ∧ v.cells.all isCell = true then some (.ok .undef (hset H id (.cells (fillAt o (if mv = true then v.cells else v.cells.map stripC) cs)))) else none := by
  show (bif v.cells.length == n && (decide (o + n ≤ cs.length) && (lowL (id + 1) v.cells && v.cells.all isCell)) then some (Out.ok PV.undef (hset H id (.cells (fillAt o (bif mv then v.cells else v.cells.map stripC) cs)))) else none) = _
  cases hb : v.cells.all isCell <;> cases hc : lowL (id + 1) v.cells <;> by_cases h1 : v.cells.length = n <;> by_cases h2 : o + n ≤ cs.length <;> cases mv <;> simp [h1, h2, u5r (v.cells.length) n]
theorem ugz {mv : Bool} {cs : List PV} {c : PV} : run (ld none mv (.elem (c :: cs))) H = some (.ok c H) := nrfl rfl
theorem ufe {mv : Bool} {n : Nat} {cs : List PV} : run (ld (some n) mv (.elem cs)) H = if n ≤ cs.length then some (.ok (.agg (cs.take n)) H) else none := by
  show (bif decide (n ≤ cs.length) then M.pure (PV.agg (cs.take n)) else M.fail) H = _
  by_cases h : n ≤ cs.length <;> simp [h, M.pure, M.fail]
theorem u41 {L : List Box} (k : Nat) : hget (hadd H L) (H.length + k) = nth L k := by unfold hget hadd; rw [List.getElem?_append_right (Nat.le_add_right _ _), Nat.add_sub_cancel_left, nth_is]
theorem u3p {L : List Box} : hget (hadd H L) H.length = nth L 0 := u41 0
theorem u2f {L : List Box} {i : Nat} (h : i < H.length) : hget (hadd H L) i = hget H i := List.getElem?_append_left h
theorem u8o {L : List Box} {x : Box} (k : Nat) : hset (hadd H L) (H.length + k) x = hadd H (L.set k x) := by unfold hset hadd; rw [List.set_append_right _ _ (Nat.le_add_right _ _), Nat.add_sub_cancel_left]
theorem ug0 {L : List Box} {x : Box} : hset (hadd H L) H.length x = hadd H (L.set 0 x) := u8o 0
theorem u6q {L : List Box} {i : Nat} {x : Box} (h : i < H.length) : hset (hadd H L) i x = hadd (hset H i x) L := List.set_append_left _ _ h
theorem u3i {i : Nat} {x : Box} (h : i < H.length) : hget (hset H i x) i = some x := by unfold hget hset; rw [List.getElem?_set_self h]
theorem uan {i k : Nat} {x : Box} (h : i ≠ k) : hget (hset H i x) k = hget H k := List.getElem?_set_ne h
theorem set_set {i : Nat} {x y : Box} : hset (hset H i x) i y = hset H i y := List.set_set _
theorem uf6 {L K : List Box} : hadd (hadd H L) K = hadd H (L ++ K) := List.append_assoc _ _ _
theorem u98 {A L : List Box} {n : Nat} (h : n = A.length) : hcut (hadd A L) n = A := by subst h; simp [hcut, hadd]
theorem ufc {A : List Box} {n : Nat} (h : n = A.length) : hcut A n = A := by subst h; simp [hcut]
theorem cut0 : hcut H H.length = H := ufc rfl
theorem cut1 {i : Nat} {x : Box} : hcut (hset H i x) H.length = hset H i x := ufc (by unfold hset; simp)
theorem cut2 {i j : Nat} {x y : Box} : hcut (hset (hset H i x) j y) H.length = hset (hset H i x) j y := ufc (by unfold hset; simp)
theorem cutA0 {L : List Box} : hcut (hadd H L) H.length = H := u98 rfl
theorem cutA1 {L : List Box} {i : Nat} {x : Box} : hcut (hadd (hset H i x) L) H.length = hset H i x := u98 (by unfold hset; simp)
theorem cutA2 {L : List Box} {i j : Nat} {x y : Box} : hcut (hadd (hset (hset H i x) j y) L) H.length = hset (hset H i x) j y := u98 (by unfold hset; simp)
theorem u3s {L : List Box} : List.length (hadd H L) = H.length + L.length := List.length_append
theorem u12 {i : Nat} {x : Box} : List.length (hset H i x) = H.length := List.length_set
theorem u7n {L : List Box} {i : Nat} {y : Box} (k : Nat) : hget (hadd (hset H i y) L) (H.length + k) = nth L k := by
  have := u41 (H := hset H i y) (L := L) k
  rwa [u12] at this
theorem u2m {L : List Box} {i : Nat} {y : Box} : hget (hadd (hset H i y) L) H.length = nth L 0 := u7n 0
theorem u7q {L : List Box} {i : Nat} {x y : Box} (k : Nat) : hset (hadd (hset H i y) L) (H.length + k) x = hadd (hset H i y) (L.set k x) := by
  have := u8o (H := hset H i y) (L := L) (x := x) k
  rwa [u12] at this
theorem u36 {L : List Box} {i : Nat} {x y : Box} : hset (hadd (hset H i y) L) H.length x = hadd (hset H i y) (L.set 0 x) := u7q 0
theorem u4h {L : List Box} {i j : Nat} {y : Box} (h : i < H.length) : hget (hadd (hset H j y) L) i = hget (hset H j y) i := u2f (by rw [u12]; exact h)
theorem u5a {L : List Box} {i j : Nat} {x y : Box} (h : i < H.length) : hset (hadd (hset H j y) L) i x = hadd (hset (hset H j y) i x) L := u6q (by rw [u12]; exact h)
theorem get_lt {i : Nat} {x : Box} (h : hget H i = some x) : i < H.length := (List.getElem?_eq_some_iff.mp h).1
theorem u5b {i : Nat} {x : Box} (h : hget H i = some x) : hset H i x = H := by
  obtain ⟨h1, h2⟩ := List.getElem?_eq_some_iff.mp h
  unfold hset; subst h2; exact List.set_getElem_self h1
theorem w_i64 (h : -9223372036854775808 ≤ n ∧ n ≤ 9223372036854775807) : IntKind.i64.wrap n = n := by rw [IntKind.wrap_i64]; omega
theorem w_u64 (h : 0 ≤ n ∧ n ≤ 18446744073709551615) : IntKind.u64.wrap n = n := by simp only [IntKind.wrap, IntKind.signed, IntKind.bits]; simp; omega
theorem w_u8 (h : 0 ≤ n ∧ n ≤ 255) : IntKind.u8.wrap n = n := by rw [IntKind.wrap_u8]; omega
theorem w_u32 (h : 0 ≤ n ∧ n ≤ 4294967295) : IntKind.u32.wrap n = n := by rw [IntKind.wrap_u32]; omega
theorem w_i32 (h : -2147483648 ≤ n ∧ n ≤ 2147483647) : IntKind.i32.wrap n = n := by rw [IntKind.wrap_i32]; omega
theorem ujt (h : b ≠ 0) : bi .quo ek (.int k a) (.int k b) = M.pure (.int k (k.wrap (a.tdiv b))) := by
  have h' : (b == 0) = false := by simpa using h
  cases k <;> simp [bi, intOp, h']
theorem uk3 (h : b ≠ 0) : bi .rem ek (.int k a) (.int k b) = M.pure (.int k (a.tmod b)) := by
  have h' : (b == 0) = false := by simpa using h
  cases k <;> simp [bi, intOp, h']
def iaR (H : Heap) : Option PV → Option (Out PV)
  | some x => some (.ok (.elem x.cells) H)
  | none => none
theorem ufs {x : PV} : iaR H (some x) = some (.ok (.elem x.cells) H) := nrfl rfl
theorem uen {o z : Bool} {sz : Nat} {xs : List PV} (h0 : 0 ≤ n) : run (iaS sz (.slice o z sz xs) (.int k n)) H = iaR H xs[n.toNat]? := by
  unfold iaS iaR run
  have h' : decide (0 ≤ n) = true := by simpa using h0
  simp only [h', beq_self_eq_true, Bool.and_self, cond_true, u26, M.fail, M.pure]
  split <;> rename_i h <;> simp only [h] <;> rfl
theorem run_fa {off id o : Nat} : fa off (.ptr id o) = M.pure (.ptr id (o + off)) := nrfl rfl
theorem ukp {off : Nat} {cs : List PV} : fa off (.elem cs) = M.pure (.elem (cs.drop off)) := nrfl rfl
theorem u66 {P : Program} {C : CallT} {f : FuncId} {u v args : List PV} : callV P C (.fn f u v) args = C f (u ++ args ++ v) := nrfl rfl
theorem nc_ptr {P : Program} {i o : Nat} : nc P (.ptr i o) = M.pure (.ptr i o) := nrfl rfl
theorem ujg {P : Program} {cs : List PV} : nc P (.elem cs) = M.pure (.elem cs) := nrfl rfl
theorem nc_nil {P : Program} : nc P .nil = M.pan (nilDeref P) := nrfl rfl
theorem run_mi {t : TypeId} {v : PV} : run (mi t v) H = if isVal v = true then some (.ok (.iface t (stripC v)) H) else none := by
  unfold run mi
  cases isVal v <;> rfl
theorem run_pn {t : TypeId} {v : PV} : pn (.iface t v) = M.pan (.iface t v) := nrfl rfl
theorem ukd {o : Bool} : cv (.int k) o (.int j n) = M.pure (.int k (k.wrap n)) := nrfl rfl
theorem ujw {v : PV} {r : List PV} : ex 0 (.tup (v :: r)) = M.pure v := nrfl rfl
theorem ujj {u v : PV} {r : List PV} : ex 1 (.tup (u :: v :: r)) = M.pure v := nrfl rfl
theorem ukq {u v x : PV} {r : List PV} : ex 2 (.tup (u :: v :: x :: r)) = M.pure x := nrfl rfl
theorem uh6 {v : PV} {r : List PV} : tupDrop 0 (.tup (v :: r)) = .tup (stripC v :: r) := nrfl rfl
theorem ufj {u v : PV} {r : List PV} : tupDrop 1 (.tup (u :: v :: r)) = .tup (u :: stripC v :: r) := nrfl rfl
theorem ugv {u v x : PV} {r : List PV} : tupDrop 2 (.tup (u :: v :: x :: r)) = .tup (u :: v :: stripC x :: r) := nrfl rfl
section
variable {c d : Bool} {s : ByteArray} {i o : Nat} {cs ds : List PV} {N : Nat}
theorem udm : isTup (.int k n) = false := nrfl rfl
theorem ua2 : isCell (.int k n) = true := nrfl rfl
theorem ucm : isVal (.int k n) = true := nrfl rfl
theorem udk : isPtr (.int k n) = false := nrfl rfl
theorem udu : PV.cells (.int k n) = [(.int k n)] := nrfl rfl
theorem ub9 : PV.low N (.int k n) = true := by simp only [PV.low]
theorem ua4 : isTup (.bool c) = false := nrfl rfl
theorem u96 : isCell (.bool c) = true := nrfl rfl
theorem ub3 : isVal (.bool c) = true := nrfl rfl
theorem uat : isPtr (.bool c) = false := nrfl rfl
theorem uay : PV.cells (.bool c) = [(.bool c)] := nrfl rfl
theorem ug2 : PV.low N (.bool c) = true := by simp only [PV.low]
theorem ue9 : isTup (.str s) = false := nrfl rfl
theorem ua9 : isCell (.str s) = true := nrfl rfl
theorem uch : isVal (.str s) = true := nrfl rfl
theorem udc : isPtr (.str s) = false := nrfl rfl
theorem ud4 : PV.cells (.str s) = [(.str s)] := nrfl rfl
theorem uid : PV.low N (.str s) = true := by simp only [PV.low]
theorem uct : isTup .nil = false := nrfl rfl
theorem uaj : isCell .nil = true := nrfl rfl
theorem ude : isVal .nil = true := nrfl rfl
theorem udo : isPtr .nil = false := nrfl rfl
theorem uc1 : PV.cells .nil = [.nil] := nrfl rfl
theorem uis : PV.low N .nil = true := by simp only [PV.low]
theorem ucj : isTup (.ptr i o) = false := nrfl rfl
theorem uao : isCell (.ptr i o) = true := nrfl rfl
theorem udn : isVal (.ptr i o) = true := nrfl rfl
theorem ucw : isPtr (.ptr i o) = true := nrfl rfl
theorem ucc : PV.cells (.ptr i o) = [(.ptr i o)] := nrfl rfl
theorem ubv : PV.low N (.ptr i o) = decide (i < N) := by simp only [PV.low]
theorem uam : isTup (.elem cs) = false := nrfl rfl
theorem u90 : isCell (.elem cs) = true := nrfl rfl
theorem uav : isVal (.elem cs) = true := nrfl rfl
theorem ub4 : isPtr (.elem cs) = false := nrfl rfl
theorem uad : PV.cells (.elem cs) = [(.elem cs)] := nrfl rfl
theorem ufx : PV.low N (.elem cs) = true := by simp only [PV.low]
theorem u8h : isTup (.slice c d i cs) = false := nrfl rfl
theorem u79 : isCell (.slice c d i cs) = true := nrfl rfl
theorem u8v : isVal (.slice c d i cs) = true := nrfl rfl
theorem u8q : isPtr (.slice c d i cs) = false := nrfl rfl
theorem u7x : PV.cells (.slice c d i cs) = [(.slice c d i cs)] := nrfl rfl
theorem u4p : PV.low N (.slice c d i cs) = true := by simp only [PV.low]
theorem uh7 : isTup (.fn i cs ds) = false := nrfl rfl
theorem ucf : isCell (.fn i cs ds) = true := nrfl rfl
theorem uh3 : isVal (.fn i cs ds) = true := nrfl rfl
theorem ugq : isPtr (.fn i cs ds) = false := nrfl rfl
theorem ugj : PV.cells (.fn i cs ds) = [(.fn i cs ds)] := nrfl rfl
theorem low_fn : PV.low N (.fn i cs ds) = (lowL N cs && lowL N ds) := by simp only [PV.low]
theorem u8y : isTup .nilfn = false := nrfl rfl
theorem u7a : isCell .nilfn = true := nrfl rfl
theorem u9j : isVal .nilfn = true := nrfl rfl
theorem u9f : isPtr .nilfn = false := nrfl rfl
theorem u7z : PV.cells .nilfn = [.nilfn] := nrfl rfl
theorem ud1 : PV.low N .nilfn = true := by simp only [PV.low]
theorem u8d : isTup (.iface i x) = false := nrfl rfl
theorem u78 : isCell (.iface i x) = true := nrfl rfl
theorem u9m : isVal (.iface i x) = true := nrfl rfl
theorem u9d : isPtr (.iface i x) = false := nrfl rfl
theorem u8l : PV.cells (.iface i x) = [(.iface i x)] := nrfl rfl
theorem u9s : PV.low N (.iface i x) = x.low N := by simp only [PV.low]
theorem u5s : isTup .niliface = false := nrfl rfl
theorem u4z : isCell .niliface = true := nrfl rfl
theorem u5q : isVal .niliface = true := nrfl rfl
theorem u5t : isPtr .niliface = false := nrfl rfl
theorem u5u : PV.cells .niliface = [.niliface] := nrfl rfl
theorem u7e : PV.low N .niliface = true := by simp only [PV.low]
theorem ue1 : isTup (.agg cs) = false := nrfl rfl
theorem ual : isCell (.agg cs) = false := nrfl rfl
theorem udq : isVal (.agg cs) = true := nrfl rfl
theorem uec : isPtr (.agg cs) = false := nrfl rfl
theorem uc6 : PV.cells (.agg cs) = cs := nrfl rfl
theorem uei : PV.low N (.agg cs) = lowL N cs := by simp only [PV.low]
theorem uck : isTup (.tup cs) = true := nrfl rfl
theorem uar : isCell (.tup cs) = false := nrfl rfl
theorem uci : isVal (.tup cs) = false := nrfl rfl
theorem uby : isPtr (.tup cs) = false := nrfl rfl
theorem udh : PV.cells (.tup cs) = [(.tup cs)] := nrfl rfl
theorem ueh : PV.low N (.tup cs) = lowL N cs := by simp only [PV.low]
theorem u9g : isTup .undef = false := nrfl rfl
theorem u73 : isCell .undef = false := nrfl rfl
theorem u95 : isVal .undef = false := nrfl rfl
theorem u86 : isPtr .undef = false := nrfl rfl
theorem u97 : PV.cells .undef = [.undef] := nrfl rfl
theorem ucn : PV.low N .undef = true := by simp only [PV.low]
end
theorem u4i {n : Nat} : lowL n [] = true := by simp only [lowL]
theorem u45 {n : Nat} {v : PV} {r : List PV} : lowL n (v :: r) = (v.low n && lowL n r) := by simp only [lowL]
def bdR (H : Heap) : Option (List PV) → Option (Out PV)
  | some cs => some (.ok (.agg cs) H)
  | none => none
theorem ug6 {cs : List PV} : bdR H (some cs) = some (.ok (.agg cs) H) := nrfl rfl
theorem run_bd {zero : List PV} {parts : List (Nat × Nat × PV)} : run (bd zero parts) H = bdR H (u34 parts zero) := by
  unfold run bd bdR
  cases u34 parts zero <;> rfl
theorem u9b {cs : List PV} : u34 [] cs = some cs := nrfl rfl
theorem u6y {off size : Nat} {v : PV} {r : List (Nat × Nat × PV)} {cs : List PV} : u34 ((off, size, v) :: r) cs = if v.cells.length = size ∧ off + size ≤ cs.length ∧ v.cells.all isCell = true then u34 r (fillAt off (v.cells.map stripC) cs) else none := by
  show (bif v.cells.length == size && (decide (off + size ≤ cs.length) && v.cells.all isCell) then u34 r (fillAt off (v.cells.map stripC) cs) else none) = _
  cases hb : v.cells.all isCell <;> by_cases h1 : v.cells.length = size <;> by_cases h2 : off + size ≤ cs.length <;> simp [h1, h2, hb, u5r (v.cells.length) size]
theorem ud7 {off : Nat} {vs cs : List PV} : fillAt off vs cs = cs.take off ++ vs ++ cs.drop (off + vs.length) := nrfl rfl
def bsR (own : Bool) (a : Option Nat) (vs : List PV) (H : Heap) : Option (Out PV) := if vs.all (u1l a) = true then some (.ok (.slice own false (a.getD 1) vs) H) else none
theorem run_bs {own : Bool} {a : Option Nat} {vs : List PV} : run (bs own a vs) H = bsR own a (vs.map stripC) H := by
  unfold run bs bsR
  cases ((vs.map stripC).all (u1l a)) <;> rfl
def noPanR : Option (Out PV) → Option (Out PV)
  | some (.ok v H) => some (.ok v H)
  | _ => none
theorem u8t {m : M PV} : run (noPan m) H = noPanR (run m H) := by
  unfold run noPan noPanR
  cases m H with
  | none => rfl
  | some q => cases q <;> rfl
theorem ucy {v : PV} {H : Heap} : noPanR (some (.ok v H)) = some (.ok v H) := nrfl rfl
theorem uab {v : PV} {H : Heap} : noPanR (some (.pan v H)) = none := nrfl rfl
theorem u9a : noPanR none = none := nrfl rfl
theorem ub5 {c : Prop} [Decidable c] {r r' : Option (Out PV)} : noPanR (if c then r else r') = if c then noPanR r else noPanR r' := by split <;> rfl
noncomputable def chkR (r r' : Option (Out α)) (x : M β) (H : Heap) : Option (Out β) := run (chk (fun _ => r) (fun _ => r') x) H
@[congr] theorem umz {r r' s s' : Option (Out α)} {x : M β} (h : r = s) (h' : r' = s') : chkR r r' x H = chkR s s' x H := by rw [h, h']
theorem uim {m m' : M α} {x : M β} : run (chk m m' x) H = chkR (run m H) (run m' H) x H := nrfl rfl
theorem uel {a : α} {K : Heap} {x : M β} : chkR (some (.ok a K)) (some (.ok a K)) x H = run x H := by
  simp [chkR, run, chk]
theorem uij {i o : Nat} : tld (.ptr i o) = .ld i := nrfl rfl
theorem uil {i o : Nat} : tst (.ptr i o) = .st i := nrfl rfl
theorem ugt {cs : List PV} : tld (.elem cs) = .no := nrfl rfl
theorem ugs {x : Touch} : clash .no x = false := nrfl rfl
theorem ucv {y : Touch} : clash y .no = false := by cases y <;> rfl
theorem u7y {i j : Nat} : clash (.ld i) (.ld j) = false := nrfl rfl
theorem u9v {i j : Nat} : clash (.ld j) (.st i) = (i == j) := nrfl rfl
theorem u8x {i j : Nat} : clash (.st j) (.ld i) = (i == j) := nrfl rfl
theorem u9k {i j : Nat} : clash (.st j) (.st i) = (i == j) := nrfl rfl
theorem u70 {i : Nat} : clash .any (.ld i) = false := nrfl rfl
theorem u71 {i : Nat} : clash (.ld i) .any = false := nrfl rfl
theorem u6g : clash .any .any = false := nrfl rfl
def defR (CD : Option PV → CallT) (f : FuncId) (args : List PV) (res : M PV) : Option (Out PV) → Option (Out PV)
  | none => none
  | some (.ok _ H) => bindR (run (CD none f args) H) (fun _ => res)
  | some (.pan v H) => bindR (run (CD (some v) f args) H) (fun r => match r with | .tup [] => res | _ => M.fail)
theorem ueb {CD : Option PV → CallT} {f : FuncId} {u v args : List PV} {rest res : M PV} : run (deferM CD (.fn f u v) args rest res) H = defR CD f (u ++ args ++ v) res (run rest H) := by
  unfold run deferM defR
  dsimp only
  cases rest H with
  | none => rfl
  | some q => cases q <;> rfl
@[congr] theorem umw {CD : Option PV → CallT} {f : FuncId} {args : List PV} {res : M PV} {r r' : Option (Out PV)} (h : r = r') : defR CD f args res r = defR CD f args res r' := by rw [h]
theorem ue5 {CD : Option PV → CallT} {f : FuncId} {args : List PV} {res : M PV} : defR CD f args res none = none := nrfl rfl
theorem ukf {CD : Option PV → CallT} {f : FuncId} {args : List PV} {res : M PV} {v : PV} : defR CD f args res (some (.ok v H)) = bindR (run (CD none f args) H) (fun _ => res) := nrfl rfl
theorem uga {CD : Option PV → CallT} {f : FuncId} {args : List PV} {res : M PV} {v : PV} : defR CD f args res (some (.pan v H)) = bindR (run (CD (some v) f args) H) (fun r => match r with | .tup [] => res | _ => M.fail) := nrfl rfl
theorem ufo {CD : Option PV → CallT} {f : FuncId} {args : List PV} {res : M PV} {c : Prop} [Decidable c] {r r' : Option (Out PV)} : defR CD f args res (if c then r else r') = if c then defR CD f args res r else defR CD f args res r' := by split <;> rfl
end Go.Proofs.YtiiepllnnjjmaaaDoor.Pi
namespace Go.Proofs.YtiiepllnnjjmaaaDoor.Pi
def byt (c : UInt8) : PV := .int .u8 c.toNat
abbrev bytes (b : List UInt8) : List PV := b.map byt
inductive Rs (α : Type) where
  | ok (v : α) (p : Nat)
  | err (p e : Nat)
end Go.Proofs.YtiiepllnnjjmaaaDoor.Pi
namespace Go.Proofs.YtiiepllnnjjmaaaDoor.Pi
def okS (h c : Nat) : Prop := c < 128 ∧ (c / 2 ^ (h - 1) = 0 ∨ c / 2 ^ (h - 1) = 2 ^ (8 - h) - 1)
instance (h c : Nat) : Decidable (okS h c) := by unfold okS; infer_instance
end Go.Proofs.YtiiepllnnjjmaaaDoor.Pi
namespace Go.Proofs.YtiiepllnnjjmaaaDoor.Pi
open Go.ChangeShapes Go.WideShapes
def imOf (w : World) (b o : Nat) : Option Value := w.cell? ⟨b, o, none⟩
theorem imOf_ok (w : World) : ∀ b o v, imOf w b o = some v → w.cell? ⟨b, o, none⟩ = some v := fun _ _ _ h => h
end Go.Proofs.YtiiepllnnjjmaaaDoor.Pi
namespace Go.Proofs.YtiiepllnnjjmaaaDoor.Pi
theorem goDown : type_of% (And.intro (And.intro (And.intro (And.intro (And.intro @run_bind @uhf) (And.intro @uac @ue0)) (And.intro (And.intro @uc2
    @run_nb) (And.intro @nbR_ok @ui8))) (And.intro (And.intro (And.intro @u9q @uag) (And.intro @u8w @uce)) (And.intro
    (And.intro @u6s @uc7) (And.intro @uhg (And.intro @uh5 @ui9))))) (And.intro (And.intro (And.intro (And.intro @uj3
    @uk6) (And.intro @run_pure @ujp)) (And.intro (And.intro @uh9 @u8t) (And.intro @ucy @uab))) (And.intro (And.intro
    (And.intro @u9a @ub5) (And.intro @uim @uel)) (And.intro (And.intro @ueb @ue5) (And.intro @ukf (And.intro
    @uga @ufo)))))) := (And.intro (And.intro (And.intro (And.intro (And.intro @run_bind @uhf) (And.intro @uac @ue0)) (And.intro (And.intro @uc2
    @run_nb) (And.intro @nbR_ok @ui8))) (And.intro (And.intro (And.intro @u9q @uag) (And.intro @u8w @uce)) (And.intro
    (And.intro @u6s @uc7) (And.intro @uhg (And.intro @uh5 @ui9))))) (And.intro (And.intro (And.intro (And.intro @uj3
    @uk6) (And.intro @run_pure @ujp)) (And.intro (And.intro @uh9 @u8t) (And.intro @ucy @uab))) (And.intro (And.intro
    (And.intro @u9a @ub5) (And.intro @uim @uel)) (And.intro (And.intro @ueb @ue5) (And.intro @ukf (And.intro
    @uga @ufo))))))
theorem goUp : type_of% (And.intro (And.intro (And.intro (And.intro (And.intro (And.intro (And.intro @uaq (And.intro @ug7 @run_al)) (And.intro (And.intro @run_bx
    @run_ld) (And.intro @run_st @ugk))) (And.intro (And.intro (And.intro @ufv @ufr) (And.intro @ud9 @ud0)) (And.intro
    (And.intro @ldB_t @ldB_f) (And.intro @stB_is @ugz)))) (And.intro (And.intro (And.intro @ufe (And.intro @u41 @u3p)) (And.intro
    (And.intro @u2f @u8o) (And.intro @ug0 @u6q))) (And.intro (And.intro (And.intro @u3i @set_set) (And.intro @uf6 @cut0))
    (And.intro (And.intro @cut1 @cut2) (And.intro @cutA0 @cutA1))))) (And.intro (And.intro (And.intro (And.intro @cutA2 (And.intro @u3s @u12))
    (And.intro (And.intro @w_i64 @w_u64) (And.intro @w_u8 @w_u32))) (And.intro (And.intro (And.intro @w_i32 @ujt) (And.intro @uk3 @ufs))
    (And.intro (And.intro @uen @run_fa) (And.intro @ukp @u66)))) (And.intro (And.intro (And.intro @nc_ptr (And.intro @ujg @nc_nil))
    (And.intro (And.intro @run_mi @run_pn) (And.intro @ukd @ujw))) (And.intro (And.intro (And.intro @ujj @ukq) (And.intro @uh6
    @ufj)) (And.intro (And.intro @ugv @udm) (And.intro @ua2 @ucm)))))) (And.intro (And.intro (And.intro (And.intro
    (And.intro @udk (And.intro @udu @ub9)) (And.intro (And.intro @ua4 @u96) (And.intro @ub3 @uat)))
    (And.intro (And.intro (And.intro @uay @ug2) (And.intro @ue9 @ua9)) (And.intro (And.intro @uch @udc) (And.intro
    @ud4 @uid)))) (And.intro (And.intro (And.intro @uct (And.intro @uaj @ude)) (And.intro (And.intro @udo
    @uc1) (And.intro @uis @ucj))) (And.intro (And.intro (And.intro @uao @udn) (And.intro @ucw @ucc))
    (And.intro (And.intro @ubv @uam) (And.intro @u90 @uav))))) (And.intro (And.intro (And.intro (And.intro @ub4
    (And.intro @uad @ufx)) (And.intro (And.intro @u8h @u79) (And.intro @u8v @u8q))) (And.intro (And.intro
    (And.intro @u7x @u4p) (And.intro @uh7 @ucf)) (And.intro (And.intro @uh3 @ugq) (And.intro @ugj @low_fn))))
    (And.intro (And.intro (And.intro @u8y (And.intro @u7a @u9j)) (And.intro (And.intro @u9f @u7z) (And.intro
    @ud1 @u8d))) (And.intro (And.intro (And.intro @u78 @u9m) (And.intro @u9d @u8l)) (And.intro
    (And.intro @u9s @u5s) (And.intro @u4z @u5q))))))) (And.intro (And.intro (And.intro (And.intro (And.intro
    (And.intro @u5t (And.intro @u5u @u7e)) (And.intro (And.intro @ue1 @ual) (And.intro @udq
    @uec))) (And.intro (And.intro (And.intro @uc6 @uei) (And.intro @uck @uar)) (And.intro (And.intro @uci
    @uby) (And.intro @udh @ueh)))) (And.intro (And.intro (And.intro @u9g (And.intro @u73 @u95)) (And.intro
    (And.intro @u86 @u97) (And.intro @ucn @u4i))) (And.intro (And.intro (And.intro @u45 @ug6) (And.intro @run_bd
    @u9b)) (And.intro (And.intro @u6y @ud7) (And.intro @run_bs @uij))))) (And.intro (And.intro (And.intro (And.intro
    @uil (And.intro @ugt @ugs)) (And.intro (And.intro @ucv @u7y) (And.intro @u9v @u8x))) (And.intro
    (And.intro (And.intro @u9k @u70) (And.intro @u71 @u6g)) (And.intro (And.intro @udi @uae)
    (And.intro @ucp @u9t)))) (And.intro (And.intro (And.intro @udw (And.intro @uc5 @ua1)) (And.intro (And.intro
    @ucs @u5p) (And.intro @u99 @ufn))) (And.intro (And.intro (And.intro @u81 @ucq) (And.intro @uau
    @u8k)) (And.intro (And.intro @uaa @u72) (And.intro @ua7 @u9z)))))) (And.intro (And.intro (And.intro
    (And.intro (And.intro @uaf (And.intro @u54 @u7c)) (And.intro (And.intro @udg @bi_add) (And.intro @bi_sub
    @bi_mul))) (And.intro (And.intro (And.intro @bi_eql @bi_neq) (And.intro @bi_lss @bi_leq)) (And.intro (And.intro @bi_gtr @bi_geq) (And.intro
    @uit @ujr)))) (And.intro (And.intro (And.intro @ujl (And.intro @ujo @un_not)) (And.intro (And.intro @ubz @uj0) (And.intro
    @mx_int @mn_int))) (And.intro (And.intro (And.intro @cv_int @Bool.and_true) (And.intro @Bool.true_and @Bool.and_self)) (And.intro (And.intro
    @Bool.not_true @Bool.not_false) (And.intro @Bool.and_false @Bool.false_and))))) (And.intro (And.intro (And.intro (And.intro @Bool.or_true
    (And.intro @Bool.or_false @Bool.true_or)) (And.intro (And.intro @Bool.false_or @Bool.false_eq_true) (And.intro @decide_eq_true_eq @and_self)))
    (And.intro (And.intro (And.intro @and_true @true_and) (And.intro @not_true_eq_false @not_false_eq_true)) (And.intro (And.intro @Nat.zero_add
    @Nat.add_zero) (And.intro @Nat.le_refl @Nat.lt_add_one)))) (And.intro (And.intro (And.intro (And.intro @Nat.lt_irrefl @and_false) (And.intro
    @false_and @Bool.not_eq_true')) (And.intro (And.intro @Bool.not_eq_eq_eq_not @decide_eq_false_iff_not) (And.intro @Bool.and_eq_true
    @Bool.or_eq_true))) (And.intro (And.intro (And.intro @decide_true @decide_false) (And.intro @u7n @u2m)) (And.intro (And.intro @u7q
    @u36) (And.intro @u4h @u5a)))))))) := (And.intro (And.intro (And.intro (And.intro (And.intro (And.intro (And.intro @uaq (And.intro @ug7 @run_al)) (And.intro (And.intro @run_bx
    @run_ld) (And.intro @run_st @ugk))) (And.intro (And.intro (And.intro @ufv @ufr) (And.intro @ud9 @ud0)) (And.intro
    (And.intro @ldB_t @ldB_f) (And.intro @stB_is @ugz)))) (And.intro (And.intro (And.intro @ufe (And.intro @u41 @u3p)) (And.intro
    (And.intro @u2f @u8o) (And.intro @ug0 @u6q))) (And.intro (And.intro (And.intro @u3i @set_set) (And.intro @uf6 @cut0))
    (And.intro (And.intro @cut1 @cut2) (And.intro @cutA0 @cutA1))))) (And.intro (And.intro (And.intro (And.intro @cutA2 (And.intro @u3s @u12))
    (And.intro (And.intro @w_i64 @w_u64) (And.intro @w_u8 @w_u32))) (And.intro (And.intro (And.intro @w_i32 @ujt) (And.intro @uk3 @ufs))
    (And.intro (And.intro @uen @run_fa) (And.intro @ukp @u66)))) (And.intro (And.intro (And.intro @nc_ptr (And.intro @ujg @nc_nil))
    (And.intro (And.intro @run_mi @run_pn) (And.intro @ukd @ujw))) (And.intro (And.intro (And.intro @ujj @ukq) (And.intro @uh6
    @ufj)) (And.intro (And.intro @ugv @udm) (And.intro @ua2 @ucm)))))) (And.intro (And.intro (And.intro (And.intro
    (And.intro @udk (And.intro @udu @ub9)) (And.intro (And.intro @ua4 @u96) (And.intro @ub3 @uat)))
    (And.intro (And.intro (And.intro @uay @ug2) (And.intro @ue9 @ua9)) (And.intro (And.intro @uch @udc) (And.intro
    @ud4 @uid)))) (And.intro (And.intro (And.intro @uct (And.intro @uaj @ude)) (And.intro (And.intro @udo
    @uc1) (And.intro @uis @ucj))) (And.intro (And.intro (And.intro @uao @udn) (And.intro @ucw @ucc))
    (And.intro (And.intro @ubv @uam) (And.intro @u90 @uav))))) (And.intro (And.intro (And.intro (And.intro @ub4
    (And.intro @uad @ufx)) (And.intro (And.intro @u8h @u79) (And.intro @u8v @u8q))) (And.intro (And.intro
    (And.intro @u7x @u4p) (And.intro @uh7 @ucf)) (And.intro (And.intro @uh3 @ugq) (And.intro @ugj @low_fn))))
    (And.intro (And.intro (And.intro @u8y (And.intro @u7a @u9j)) (And.intro (And.intro @u9f @u7z) (And.intro
    @ud1 @u8d))) (And.intro (And.intro (And.intro @u78 @u9m) (And.intro @u9d @u8l)) (And.intro
    (And.intro @u9s @u5s) (And.intro @u4z @u5q))))))) (And.intro (And.intro (And.intro (And.intro (And.intro
    (And.intro @u5t (And.intro @u5u @u7e)) (And.intro (And.intro @ue1 @ual) (And.intro @udq
    @uec))) (And.intro (And.intro (And.intro @uc6 @uei) (And.intro @uck @uar)) (And.intro (And.intro @uci
    @uby) (And.intro @udh @ueh)))) (And.intro (And.intro (And.intro @u9g (And.intro @u73 @u95)) (And.intro
    (And.intro @u86 @u97) (And.intro @ucn @u4i))) (And.intro (And.intro (And.intro @u45 @ug6) (And.intro @run_bd
    @u9b)) (And.intro (And.intro @u6y @ud7) (And.intro @run_bs @uij))))) (And.intro (And.intro (And.intro (And.intro
    @uil (And.intro @ugt @ugs)) (And.intro (And.intro @ucv @u7y) (And.intro @u9v @u8x))) (And.intro
    (And.intro (And.intro @u9k @u70) (And.intro @u71 @u6g)) (And.intro (And.intro @udi @uae)
    (And.intro @ucp @u9t)))) (And.intro (And.intro (And.intro @udw (And.intro @uc5 @ua1)) (And.intro (And.intro
    @ucs @u5p) (And.intro @u99 @ufn))) (And.intro (And.intro (And.intro @u81 @ucq) (And.intro @uau
    @u8k)) (And.intro (And.intro @uaa @u72) (And.intro @ua7 @u9z)))))) (And.intro (And.intro (And.intro
    (And.intro (And.intro @uaf (And.intro @u54 @u7c)) (And.intro (And.intro @udg @bi_add) (And.intro @bi_sub
    @bi_mul))) (And.intro (And.intro (And.intro @bi_eql @bi_neq) (And.intro @bi_lss @bi_leq)) (And.intro (And.intro @bi_gtr @bi_geq) (And.intro
    @uit @ujr)))) (And.intro (And.intro (And.intro @ujl (And.intro @ujo @un_not)) (And.intro (And.intro @ubz @uj0) (And.intro
    @mx_int @mn_int))) (And.intro (And.intro (And.intro @cv_int @Bool.and_true) (And.intro @Bool.true_and @Bool.and_self)) (And.intro (And.intro
    @Bool.not_true @Bool.not_false) (And.intro @Bool.and_false @Bool.false_and))))) (And.intro (And.intro (And.intro (And.intro @Bool.or_true
    (And.intro @Bool.or_false @Bool.true_or)) (And.intro (And.intro @Bool.false_or @Bool.false_eq_true) (And.intro @decide_eq_true_eq @and_self)))
    (And.intro (And.intro (And.intro @and_true @true_and) (And.intro @not_true_eq_false @not_false_eq_true)) (And.intro (And.intro @Nat.zero_add
    @Nat.add_zero) (And.intro @Nat.le_refl @Nat.lt_add_one)))) (And.intro (And.intro (And.intro (And.intro @Nat.lt_irrefl @and_false) (And.intro
    @false_and @Bool.not_eq_true')) (And.intro (And.intro @Bool.not_eq_eq_eq_not @decide_eq_false_iff_not) (And.intro @Bool.and_eq_true
    @Bool.or_eq_true))) (And.intro (And.intro (And.intro @decide_true @decide_false) (And.intro @u7n @u2m)) (And.intro (And.intro @u7q
    @u36) (And.intro @u4h @u5a))))))))
theorem cr : (∀ {α : Type} {a : α} {l : List α}, (a :: l).length = l.length + 1) ∧ (∀ {α : Type}, ([] : List α).length = 0) ∧ (∀ {α β : Type} {f : α → β} {a : α} {l : List α}, (a :: l).map f = f a :: l.map f) ∧ (∀ {α β : Type} {f : α → β}, [].map f = []) ∧ (∀ {α : Type} {a : α} {l : List α} {i : Nat}, (a :: l).take (i + 1) = a :: l.take i) ∧ (∀ {α : Type} {l : List α}, l.take 0 = []) ∧ (∀ {α : Type} {a : α} {l : List α} {i : Nat}, (a :: l).drop (i + 1) = l.drop i) ∧ (∀ {α : Type} {l : List α}, l.drop 0 = l) ∧ (∀ {α : Type} {i : Nat}, ([] : List α).drop i = []) ∧ (∀ {α : Type} {i : Nat}, ([] : List α).take i = []) ∧ (∀ {α : Type} {a : α} {l k : List α}, a :: l ++ k = a :: (l ++ k)) ∧ (∀ {α : Type} {l : List α}, [] ++ l = l) ∧ (∀ {α : Type} {l : List α}, l ++ [] = l) ∧ (∀ {α : Type} {a b : α} {l : List α}, (a :: l).set 0 b = b :: l) ∧ (∀ {α : Type} {a b : α} {l : List α} {i : Nat}, (a :: l).set (i + 1) b = a :: l.set i b) ∧ (∀ {α : Type} {f : α → Bool} {a : α} {l : List α}, (a :: l).all f = (f a && l.all f)) ∧ (∀ {α : Type} {f : α → Bool}, [].all f = true) ∧ (∀ {a b : Int}, a ≥ b ↔ b ≤ a) ∧ (∀ {a b : Nat}, a ≥ b ↔ b ≤ a) ∧ (∀ {a b : Int}, a > b ↔ b < a) ∧ (∀ {a b : Nat}, a > b ↔ b < a) ∧ (∀ {α : Type} [BEq α] [ReflBEq α] {a : α}, (a == a) = true) ∧ (∀ {α : Type} [BEq α] [LawfulBEq α] {a b : α}, (a == b) = true ↔ a = b) ∧ (∀ {α : Type} [BEq α] [LawfulBEq α] {a b : α}, (a != b) = true ↔ a ≠ b) ∧ (∀ {α : Type} {a b : α}, (a ≠ b) = ¬ a = b) ∧ (∀ {α : Type} {p : Prop} [Decidable p] {x y : α}, (if ¬ p then x else y) = if p then y else x) ∧ (∀ {α : Type} {p : Prop} [Decidable p] {x : α}, (if p then x else x) = x) ∧ (∀ {α : Type} {a b : α}, (some a).getD b = a) ∧ (∀ {α : Type} {b : α}, (none : Option α).getD b = b) :=
  ⟨List.length_cons, List.length_nil, List.map_cons, List.map_nil, List.take_succ_cons, List.take_zero, List.drop_succ_cons, List.drop_zero, List.drop_nil, List.take_nil, List.cons_append, (List.nil_append _), (List.append_nil _), List.set_cons_zero, List.set_cons_succ, List.all_cons, List.all_nil, Iff.rfl, Iff.rfl, Iff.rfl, Iff.rfl, (beq_self_eq_true _), beq_iff_eq, bne_iff_ne, (ne_eq _ _), (ite_not _ _ _), (ite_self _), Option.getD_some, Option.getD_none⟩
end Go.Proofs.YtiiepllnnjjmaaaDoor.Pi
namespace Go.Proofs.YtiiepllnnjjmaaaDoor.Pi
variable {α β σ : Type} {c : Nat} {H : Heap}
def St (H : Heap) (c : Nat) (bx : Box) (L : List Box) : Heap := hadd (hset H c bx) L
def killR (c : Nat) : Option (Out α) → Option (Out α)
  | some (.pan v H) => some (.pan v (hset H c .dead))
  | r => r
def runK (c : Nat) (m : M α) (H : Heap) : Option (Out α) := killR c (run m H)
def bindK (c : Nat) (r : Option (Out α)) (f : α → M β) : Option (Out β) :=
  match r with
  | none => none
  | some (.ok v H) => runK c (f v) H
  | some (.pan v H) => some (.pan v H)
inductive Res (σ α : Type) where
  | ok (v : α) (s : σ)
  | err (t : TypeId) (l : List Int)
  | no
def fltP (t : TypeId) (l : List Int) : PV := .iface t (.agg (l.map (PV.int .i64)))
theorem ui4 {t : TypeId} {l : List Int} : fltP t l = .iface t (.agg (l.map (PV.int .i64))) := nrfl rfl
theorem uds {n : Nat} : ∀ l : List Int, lowL n (l.map (PV.int .i64)) = true
  | [] => u4i
  | a :: r => by rw [List.map_cons, u45, ub9, uds r]; rfl
theorem ubl {t : TypeId} {l : List Int} {n : Nat} : (fltP t l).low n = true := by
  unfold fltP
  rw [u9s, uei]
  exact uds l
def Res.bind {σ τ α β : Type} (r : Res σ α) (g : α → σ → Res τ β) : Res τ β :=
  match r with
  | .ok v s => g v s
  | .err t l => .err t l
  | .no => .no
def elimK {σ α γ : Type} (c : Nat) (H : Heap) (L : List Box) (r : Res σ α) (g : α → σ → Option (Out γ)) : Option (Out γ) :=
  match r with
  | .ok v s => g v s
  | .err t l => some (.pan (fltP t l) (St H c .dead L))
  | .no => none
def outK (c : Nat) (H : Heap) (L : List Box) (bx : σ → Box) (enc : α → PV) (r : Res σ α) : Option (Out PV) := elimK c H L r fun v s => some (.ok (enc v) (St H c (bx s) L))
def outS (c : Nat) (H : Heap) (L : List Box) (bx : σ → Box) (enc : α → PV) (r : α × σ) : Option (Out PV) := some (.ok (enc r.1) (St H c (bx r.2) L))
@[congr] theorem umo {r r' : Option (Out α)} {f : α → M β} (h : r = r') : bindK c r f = bindK c r' f := by rw [h]
@[congr] theorem umr {σ α γ : Type} {L L' : List Box} {r r' : Res σ α} {g g' : α → σ → Option (Out γ)} (h : r = r') (hL : L = L') (hg : ∀ v s, r' = .ok v s → g v s = g' v s) : elimK c H L r g = elimK c H L' r' g' := by
  subst h hL
  cases r with
  | ok v s => exact hg v s rfl
  | err t l => rfl
  | no => rfl
theorem ukv {L : List Box} {bx : σ → Box} {enc : α → PV} {r : Res σ α} : outK c H L bx enc r = elimK c H L r fun v s => some (.ok (enc v) (St H c (bx s) L)) := nrfl rfl
theorem ujd {L : List Box} {bx : σ → Box} {enc : α → PV} {v : α} {s : σ} : outK c H L bx enc (.ok v s) = some (.ok (enc v) (St H c (bx s) L)) := nrfl rfl
theorem ugh {L : List Box} {bx : σ → Box} {enc : α → PV} {t : TypeId} {l : List Int} : outK c H L bx enc (Res.err t l : Res σ α) = some (.pan (fltP t l) (St H c .dead L)) := nrfl rfl
theorem uks {L : List Box} {bx : σ → Box} {enc : α → PV} : outK c H L bx enc (Res.no : Res σ α) = none := nrfl rfl
theorem ugx {γ : Type} {L : List Box} {g : α → σ → Option (Out γ)} : elimK c H L (Res.no : Res σ α) g = none := nrfl rfl
theorem ue7 {τ : Type} {β : Type} {L : List Box} {bx : σ → Box} {enc : α → PV} {r : Res τ β} {g : β → τ → Res σ α} : outK c H L bx enc (r.bind g) = elimK c H L r fun v s => outK c H L bx enc (g v s) := by cases r <;> rfl
theorem uge {L : List Box} {bx : σ → Box} {enc : α → PV} {p : Prop} [Decidable p] {r r' : Res σ α} : outK c H L bx enc (if p then r else r') = if p then outK c H L bx enc r else outK c H L bx enc r' := by split <;> rfl
theorem ug3 {γ : Type} {L : List Box} {v : α} {s : σ} {g : α → σ → Option (Out γ)} : elimK c H L (.ok v s) g = g v s := nrfl rfl
theorem ud5 {γ : Type} {L : List Box} {t : TypeId} {l : List Int} {g : α → σ → Option (Out γ)} : elimK c H L (Res.err t l : Res σ α) g = some (.pan (fltP t l) (St H c .dead L)) := nrfl rfl
theorem ue4 {γ : Type} {L : List Box} {p : Prop} [Decidable p] {r r' : Res σ α} {g : α → σ → Option (Out γ)} : elimK c H L (if p then r else r') g = if p then elimK c H L r g else elimK c H L r' g := by split <;> rfl
theorem uas {γ τ β : Type} {L : List Box} {r : Res τ β} {f : β → τ → Res σ α} {g : α → σ → Option (Out γ)} : elimK c H L (r.bind f) g = elimK c H L r fun v s => elimK c H L (f v s) g := by cases r <;> rfl
theorem ugi {v : α} : killR c (some (.ok v H)) = some (.ok v H) := nrfl rfl
theorem ua6 : killR c (none : Option (Out α)) = none := nrfl rfl
theorem u87 {v : PV} : killR c (some (.pan v H) : Option (Out α)) = some (.pan v (hset H c .dead)) := nrfl rfl
theorem ud6 {p : Prop} [Decidable p] {r r' : Option (Out α)} : killR c (if p then r else r') = if p then killR c r else killR c r' := by split <;> rfl
theorem uea {m : M α} {f : α → M β} : runK c (M.bind m f) H = bindK c (runK c m H) f := by
  unfold runK
  rw [run_bind]
  cases run m H with
  | none => rfl
  | some q => cases q <;> rfl
theorem ugc {f : α → M β} {v : α} : bindK c (some (.ok v H)) f = runK c (f v) H := nrfl rfl
theorem ua8 {f : α → M β} : bindK c none f = none := nrfl rfl
theorem udb {f : α → M β} {v : PV} : bindK c (some (.pan v H)) f = some (.pan v H) := nrfl rfl
theorem ud2 {p : Prop} [Decidable p] {r r' : Option (Out α)} {f : α → M β} : bindK c (if p then r else r') f = if p then bindK c r f else bindK c r' f := by split <;> rfl
theorem ua0 {L : List Box} {r : Res σ α} {g : α → σ → Option (Out PV)} {f : PV → M β} : bindK c (elimK c H L r g) f = elimK c H L r fun v s => bindK c (g v s) f := by cases r <;> rfl
noncomputable def nbK (c : Nat) (H : Heap) (r : Option (Out α)) (f : α → M β) : Option (Out β) := killR c (nbR H r f)
@[congr] theorem un1 {r r' : Option (Out α)} {f : α → M β} (h : r = r') : nbK c H r f = nbK c H r' f := by rw [h]
theorem ukj {m : M α} {f : α → M β} : runK c (nb m f) H = nbK c H (runK c m H) f := by
  unfold nbK runK nbR run nb killR
  dsimp only
  cases m H with
  | none => rfl
  | some q => cases q <;> rfl
theorem nbK_ok {f : α → M β} {v : α} : nbK c H (some (.ok v H)) f = runK c (f v) H := by
  unfold nbK
  rw [nbR_ok]
  rfl
theorem uhe {f : α → M β} : nbK c H none f = none := by
  unfold nbK nbR nb
  rfl
theorem uiu {p : Prop} [Decidable p] {r r' : Option (Out α)} {f : α → M β} : nbK c H (if p then r else r') f = if p then nbK c H r f else nbK c H r' f := by split <;> rfl
theorem uho {m : M PV} (hc : c < List.length H) : runK c (trunc m) H = truncR H (runK c m H) := by
  unfold runK
  rw [u9q]
  cases run m H with
  | none => rfl
  | some q => cases q with
    | ok v K => rfl
    | pan v K =>
      show killR c (bif v.low H.length then some (Out.pan v (hcut K H.length)) else none) = (bif v.low H.length then some (Out.pan v (hcut (hset K c .dead) H.length)) else none)
      cases v.low H.length with
      | false => rfl
      | true =>
        simp only [cond_true, u87, Option.some.injEq, Out.pan.injEq, true_and]
        unfold hset hcut
        rw [List.take_set]
theorem uax {p : Bool} {m : M α} : runK c (guardM p m) H = if p = true then runK c m H else none := by cases p <;> rfl
theorem ucu {v : PV} {m : M PV} : runK c (resT v m) H = if isTup v = true then none else runK c m H := by unfold resT; cases isTup v <;> rfl
theorem udd {p : Bool} {x y : M α} : runK c (condM (.bool p) x y) H = if p = true then runK c x H else runK c y H := by cases p <;> rfl
theorem ufw {p : Bool} {m : M PV} : runK c (gd (.bool p) true m) H = if p = true then runK c m H else some (.ok (.tup []) H) := by cases p <;> rfl
theorem ufk {p : Bool} {m : M PV} : runK c (gd (.bool p) false m) H = if p = true then some (.ok (.tup []) H) else runK c m H := by cases p <;> rfl
theorem ufd {b : Bool} {m : M PV} : runK c (gd (.tup []) b m) H = some (.ok (.tup []) H) := nrfl rfl
theorem ue3 {v : α} : runK c (M.pure v) H = some (.ok v H) := nrfl rfl
theorem ugr {v : PV} : runK c (M.pan v : M α) H = some (.pan v (hset H c .dead)) := nrfl rfl
theorem udf : runK c (M.fail : M α) H = none := nrfl rfl
theorem uap {m : M PV} : runK c (noPan m) H = noPanR (run m H) := by
  unfold runK
  rw [u8t]
  cases run m H with
  | none => rfl
  | some q => cases q <;> rfl
noncomputable def chkK (c : Nat) (r r' : Option (Out α)) (x : M β) (H : Heap) : Option (Out β) := killR c (chkR r r' x H)
@[congr] theorem umx {r r' s s' : Option (Out α)} {x : M β} (h : r = s) (h' : r' = s') : chkK c r r' x H = chkK c s s' x H := by rw [h, h']
theorem uh2 {m m' : M α} {x : M β} : runK c (chk m m' x) H = chkK c (run m H) (run m' H) x H := nrfl rfl
theorem ujb {a : α} {K : Heap} {x : M β} : chkK c (some (.ok a K)) (some (.ok a K)) x H = runK c x H := by
  unfold chkK
  rw [uel]
  rfl
theorem uda {r : Option (Out α)} {x : M β} : chkK c none r x H = none := by
  unfold chkK chkR run chk
  rfl
theorem ufq {p : Prop} [Decidable p] {r r' s : Option (Out α)} {x : M β} : chkK c (if p then r else r') s x H = if p then chkK c r s x H else chkK c r' s x H := by split <;> rfl
theorem ued {r : Option (Out α)} {x : M β} : chkR none r x H = none := by
  unfold chkR run chk
  rfl
theorem ugu {p : Prop} [Decidable p] {r r' s : Option (Out α)} {x : M β} : chkR (if p then r else r') s x H = if p then chkR r s x H else chkR r' s x H := by split <;> rfl
section
variable {n : Nat} {id o : Nat} {x y v i : PV} {cs : List PV} {m : Option Nat} {mv b : Bool} {L : List Box}
theorem ujs : runK c (al cs) H = killR c (run (al cs) H) := nrfl rfl
theorem uiy : runK c (bx n v) H = killR c (run (bx n v) H) := nrfl rfl
theorem ui6 : runK c (ld m mv v) H = killR c (run (ld m mv v) H) := nrfl rfl
theorem ui7 : runK c (st n mv x v) H = killR c (run (st n mv x v) H) := nrfl rfl
theorem uhd : runK c (iaS n x i) H = killR c (run (iaS n x i) H) := nrfl rfl
theorem uh8 {len : Nat} : runK c (ixA len n m x i) H = killR c (run (ixA len n m x i) H) := nrfl rfl
theorem uc4 : runK c (pick v x y) H = killR c (run (pick v x y) H) := nrfl rfl
theorem uk2 {t : TypeId} : runK c (mi t v) H = killR c (run (mi t v) H) := nrfl rfl
theorem ukh {t : FuncId} {l l' : List PV} : runK c (mf t l l') H = killR c (run (mf t l l') H) := nrfl rfl
theorem uj1 {z : List PV} {ps : List (Nat × Nat × PV)} : runK c (bd z ps) H = killR c (run (bd z ps) H) := nrfl rfl
theorem uio {l : List PV} : runK c (bs b m l) H = killR c (run (bs b m l) H) := nrfl rfl
theorem uir {k : Nat} : runK c (ap b n k x y) H = killR c (run (ap b n k x y) H) := nrfl rfl
theorem uig {k : Nat} : runK c (mk b n k x y) H = killR c (run (mk b n k x y) H) := nrfl rfl
theorem ufy : runK c (lnS x) H = killR c (run (lnS x) H) := nrfl rfl
theorem ufh : runK c (lnL x) H = killR c (run (lnL x) H) := nrfl rfl
theorem ugo : runK c (ixS x i) H = killR c (run (ixS x i) H) := nrfl rfl
theorem uft {lo hi : Option PV} : runK c (slS x lo hi) H = killR c (run (slS x lo hi) H) := nrfl rfl
theorem ufl {lo hi : Option PV} : runK c (slL n x lo hi) H = killR c (run (slL n x lo hi) H) := nrfl rfl
theorem uj5 {k : Cv} : runK c (cv k b x) H = killR c (run (cv k b x) H) := nrfl rfl
theorem uih : runK c (ex n x) H = killR c (run (ex n x) H) := nrfl rfl
theorem ukb {op : BinOp} {ek : EqK} : runK c (bi op ek x y) H = killR c (run (bi op ek x y) H) := nrfl rfl
theorem len_St {x : Box} : List.length (St H c x L) = List.length H + List.length L := by unfold St; rw [u3s, u12]
theorem get_St {x : Box} (hc : c < List.length H) : hget (St H c x L) c = some x := by unfold St; rw [u4h hc, u3i hc]
theorem uiz {x : Box} (k : Nat) : hget (St H c x L) (List.length H + k) = nth L k := u7n k
theorem ufz {x : Box} : hget (St H c x L) (List.length H) = nth L 0 := u2m
theorem set_St {x y : Box} (hc : c < List.length H) : hset (St H c x L) c y = St H c y L := by unfold St; rw [u5a hc, set_set]
theorem ujy {x y : Box} (k : Nat) : hset (St H c x L) (List.length H + k) y = St H c x (L.set k y) := u7q k
theorem ugy {x y : Box} : hset (St H c x L) (List.length H) y = St H c x (L.set 0 y) := u36
theorem add_St {x : Box} {K : List Box} : hadd (St H c x L) K = St H c x (L ++ K) := uf6
theorem cut_St {x : Box} : hcut (St H c x L) (List.length H) = St H c x [] := by
  unfold St
  rw [cutA1]
  exact (List.append_nil _).symm
theorem u8s {r : Res σ α} {bx : Box} {g : α → σ → Option (Out PV)} : truncR (St H c bx []) (elimK c H L r g) = elimK c H [] r fun v s => truncR (St H c bx []) (g v s) := by
  cases r with
  | ok v s => rfl
  | err t l =>
    show truncR (St H c bx []) (some (Out.pan (fltP t l) (St H c .dead L))) = some (Out.pan (fltP t l) (St H c .dead []))
    rw [u6s, if_pos ubl, len_St, List.length_nil, Nat.add_zero, cut_St]
  | no => rfl
theorem u9n {m : M PV} {x : Box} (hc : c < List.length H) : runK c (trunc m) (St H c x L) = truncR (St H c x L) (runK c m (St H c x L)) := uho (by rw [len_St]; omega)
theorem uj6 {bx : σ → Box} {enc : α → PV} {v : α} {s : σ} : outS c H L bx enc (v, s) = some (.ok (enc v) (St H c (bx s) L)) := nrfl rfl
theorem uib {bx : σ → Box} {enc : α → PV} {r : α × σ} {f : PV → M β} : bindR (outS c H L bx enc r) f = run (f (enc r.1)) (St H c (bx r.2) L) := nrfl rfl
end
end Go.Proofs.YtiiepllnnjjmaaaDoor.Pi
namespace Go.Proofs.YtiiepllnnjjmaaaDoor.Pi
theorem kDown : type_of% (And.intro (And.intro (And.intro (And.intro (And.intro @ujd @ugh) (And.intro @uks (And.intro @ugx @ue7))) (And.intro
    (And.intro @uge @ug3) (And.intro @ud5 (And.intro @ue4 @uas)))) (And.intro (And.intro (And.intro @ugi @ua6)
    (And.intro @u87 (And.intro @ud6 @uea))) (And.intro (And.intro @ugc (And.intro @ua8 @udb)) (And.intro @ud2
    (And.intro @ua0 @u8s))))) (And.intro (And.intro (And.intro (And.intro @ukj @nbK_ok) (And.intro @uhe (And.intro @uiu
    @u9n))) (And.intro (And.intro @uax (And.intro @ucu @udd)) (And.intro @ufw (And.intro @ufk @ufd))))
    (And.intro (And.intro (And.intro @ue3 @ugr) (And.intro @udf (And.intro @uap @uh2))) (And.intro (And.intro @ujb
    (And.intro @uda @ufq)) (And.intro @ued (And.intro @ugu @uib)))))) := (And.intro (And.intro (And.intro (And.intro (And.intro @ujd @ugh) (And.intro @uks (And.intro @ugx @ue7))) (And.intro
    (And.intro @uge @ug3) (And.intro @ud5 (And.intro @ue4 @uas)))) (And.intro (And.intro (And.intro @ugi @ua6)
    (And.intro @u87 (And.intro @ud6 @uea))) (And.intro (And.intro @ugc (And.intro @ua8 @udb)) (And.intro @ud2
    (And.intro @ua0 @u8s))))) (And.intro (And.intro (And.intro (And.intro @ukj @nbK_ok) (And.intro @uhe (And.intro @uiu
    @u9n))) (And.intro (And.intro @uax (And.intro @ucu @udd)) (And.intro @ufw (And.intro @ufk @ufd))))
    (And.intro (And.intro (And.intro @ue3 @ugr) (And.intro @udf (And.intro @uap @uh2))) (And.intro (And.intro @ujb
    (And.intro @uda @ufq)) (And.intro @ued (And.intro @ugu @uib))))))
theorem kUp : type_of% (And.intro (And.intro (And.intro (And.intro (And.intro @ukv @uj6) (And.intro @ui4 @ubl)) (And.intro (And.intro @ujs @uiy)
    (And.intro @ui6 @ui7))) (And.intro (And.intro (And.intro @uhd @uh8) (And.intro @uc4 @uk2)) (And.intro (And.intro
    @ukh @uj1) (And.intro @uio (And.intro @uir @uig))))) (And.intro (And.intro (And.intro (And.intro @ufy @ufh)
    (And.intro @ugo @uft)) (And.intro (And.intro @ufl @uj5) (And.intro @uih @ukb))) (And.intro (And.intro (And.intro @len_St
    @get_St) (And.intro @uiz @ufz)) (And.intro (And.intro @set_St @ujy) (And.intro @ugy (And.intro @add_St @cut_St)))))) := (And.intro (And.intro (And.intro (And.intro (And.intro @ukv @uj6) (And.intro @ui4 @ubl)) (And.intro (And.intro @ujs @uiy)
    (And.intro @ui6 @ui7))) (And.intro (And.intro (And.intro @uhd @uh8) (And.intro @uc4 @uk2)) (And.intro (And.intro
    @ukh @uj1) (And.intro @uio (And.intro @uir @uig))))) (And.intro (And.intro (And.intro (And.intro @ufy @ufh)
    (And.intro @ugo @uft)) (And.intro (And.intro @ufl @uj5) (And.intro @uih @ukb))) (And.intro (And.intro (And.intro @len_St
    @get_St) (And.intro @uiz @ufz)) (And.intro (And.intro @set_St @ujy) (And.intro @ugy (And.intro @add_St @cut_St))))))
end Go.Proofs.YtiiepllnnjjmaaaDoor.Pi
namespace Go.Proofs.YtiiepllnnjjmaaaDoor.Pi
variable {α β : Type} {H : Heap}
noncomputable def chkAR (r2 r1 : Option (Out Env)) (x : M β) (H : Heap) : Option (Out β) := run (chkA (fun _ => r2) (fun _ => r1) x) H
@[congr] theorem ume {r r' s s' : Option (Out Env)} {x : M β} (h : r = s) (h' : r' = s') : chkAR r r' x H = chkAR s s' x H := by rw [h, h']
end Go.Proofs.YtiiepllnnjjmaaaDoor.Pi
namespace Go.Proofs.YtiiepllnnjjmaaaDoor.Pi.Q
open Go Go.Proofs.YtiiepllnnjjmaaaDoor.Pi
noncomputable abbrev P : Program := Tryd.prog
noncomputable abbrev X : ExtT := fun _ => none
noncomputable abbrev C := callW P X
noncomputable abbrev CD := callDW P X
abbrev u17 : FuncId := 4
abbrev u27 : FuncId := 7
abbrev u2j : FuncId := 16
abbrev u3r : FuncId := 17
abbrev u20 : FuncId := 18
abbrev u3m : FuncId := 19
abbrev u1y : FuncId := 20
abbrev u1p : FuncId := 21
abbrev u52 : FuncId := 22
abbrev u1o : FuncId := 23
abbrev u2c : FuncId := 24
abbrev u1c : FuncId := 25
abbrev u4n : FuncId := 31
abbrev u0r : FuncId := 32
abbrev u2v : FuncId := 33
abbrev u0y : FuncId := 34
abbrev u1b : FuncId := 35
abbrev u2n : FuncId := 36
abbrev u1t : FuncId := 37
abbrev u2p : FuncId := 38
abbrev u1n : FuncId := 39
abbrev u4l : FuncId := 47
abbrev u3v : FuncId := 48
abbrev u01 : FuncId := 49
abbrev u0f : FuncId := 50
end Go.Proofs.YtiiepllnnjjmaaaDoor.Pi.Q
namespace Go.Proofs.YtiiepllnnjjmaaaDoor.Pi.Q
open Go Go.Proofs.YtiiepllnnjjmaaaDoor.Pi
noncomputable def u07 (v0 v4 v13 v14 v15 : PV) : M PV := atP P X u17 [1, 1, 1, 1, 1, 1, 1, 0, 1, 0] (mkEnv 116 0 [(0, v0), (4, v4), (13, v13), (14, v14), (15, v15)])
theorem u1a (v0 v4 v13 v14 v15 : PV) : u07 v0 v4 v13 v14 v15 =
 M.bind (lnL (strip v13)) fun t82_0 =>
 M.bind (bi .lss .none (strip v15) t82_0) fun t83_1 =>
 condM t83_1
 (nb (iaS 1 (strip v13) (strip v15)) fun t88_2 =>
 nb (ld none false t88_2) fun t89_3 =>
 nb (iaS 1 (strip v14) (strip v15)) fun t92_4 =>
 nb (ld none false t92_4) fun t93_5 =>
 nb (bi .neq .none t89_3 t93_5) fun t94_6 =>
 condM t94_6
 (M.pure (.bool false))
 (M.bind (bi .add .none (strip v15) (.int .i64 1)) fun t85_7 =>
 u07 v0 v4 v13 v14 t85_7))
 (M.bind (C u2c [(strip (strip v0))]) fun t97_8 =>
 M.bind (ex 0 t97_8) fun t98_9 =>
 M.bind (ex 1 (tupDrop 0 t97_8)) fun t99_10 =>
 M.bind (C u1c [(strip (strip v0))]) fun t102_11 =>
 M.bind (ex 0 t102_11) fun t103_12 =>
 M.bind (ex 1 (tupDrop 0 t102_11)) fun t104_13 =>
 M.bind (bi .eql .none (strip t98_9) (strip t103_12)) fun t107_14 =>
 M.bind (gd (strip t107_14) true (M.pure (strip t99_10))) fun t109_15 =>
 M.bind (gd (strip t107_14) true (M.pure (strip t104_13))) fun t110_16 =>
 M.bind (gd (strip t107_14) true (bi .eql .none t109_15 t110_16)) fun t111_17 =>
 M.bind (pick (strip t107_14) t111_17 (.bool false)) fun t112_18 =>
 M.bind (gd (strip t112_18) true (C u2j [])) fun t114_19 =>
 M.bind (pick (strip t112_18) t114_19 (.bool false)) fun t115_20 =>
 resT t115_20 (M.pure t115_20)) :=
 (u0n P X _ _ _).trans (by kernel_rfl)
theorem u3u (a0 a1 : PV) : C u17 [a0, a1] =
 trunc (M.bind (C u3r [(strip (strip a0)), (strip (strip a1))]) fun t23_0 =>
 M.bind (ex 0 t23_0) fun t24_1 =>
 M.bind (ex 1 (tupDrop 0 t23_0)) fun t25_2 =>
 M.bind (ex 2 (tupDrop 1 (tupDrop 0 t23_0))) fun t26_3 =>
 M.bind (ex 3 (tupDrop 2 (tupDrop 1 (tupDrop 0 t23_0)))) fun t27_4 =>
 M.bind (al [(.bool false), (.slice false true 0 []), (.int .i64 0), (.slice false true 0 []), (.slice false true 0 []), (.slice false true 0 [])]) fun t5_5 =>
 M.bind (st 6 true t5_5 t24_1) fun _ =>
 M.bind (C u20 [(strip (strip a0)), (strip (strip a1))]) fun t31_7 =>
 M.bind (ex 0 t31_7) fun t32_8 =>
 M.bind (ex 1 (tupDrop 0 t31_7)) fun t33_9 =>
 M.bind (ex 2 (tupDrop 1 (tupDrop 0 t31_7))) fun t34_10 =>
 M.bind (ex 3 (tupDrop 2 (tupDrop 1 (tupDrop 0 t31_7)))) fun t35_11 =>
 M.bind (al [(.bool false), (.slice false true 0 []), (.int .i64 0), (.slice false true 0 []), (.slice false true 0 []), (.slice false true 0 [])]) fun t9_12 =>
 M.bind (st 6 true t9_12 t32_8) fun _ =>
 M.bind (C u3m [(strip (strip a0))]) fun t37_14 =>
 M.bind (C u1y [(strip (strip a0))]) fun t39_15 =>
 M.bind (bi .neq .none t37_14 t39_15) fun t40_16 =>
 M.bind (gd (strip t40_16) false (ld (some 6) false t5_5)) fun t42_17 =>
 M.bind (gd (strip t40_16) false (ld (some 6) false t9_12)) fun t43_18 =>
 M.bind (gd (strip t40_16) false (C u1p [(strip t42_17), (strip t43_18)])) fun t44_19 =>
 M.bind (gd (strip t40_16) false (un .not t44_19)) fun t45_20 =>
 M.bind (pick (strip t40_16) (.bool true) t45_20) fun t46_21 =>
 M.bind (gd (strip t46_21) false (M.pure (strip t25_2))) fun t48_22 =>
 M.bind (gd (strip t46_21) false (M.pure (strip t33_9))) fun t49_23 =>
 M.bind (gd (strip t46_21) false (bi .neq .none t48_22 t49_23)) fun t50_24 =>
 M.bind (pick (strip t46_21) (.bool true) t50_24) fun t51_25 =>
 M.bind (gd (strip t51_25) false (M.pure (strip t26_3))) fun t53_26 =>
 M.bind (gd (strip t51_25) false (M.pure (strip t34_10))) fun t54_27 =>
 M.bind (gd (strip t51_25) false (bi .neq .none t53_26 t54_27)) fun t55_28 =>
 M.bind (pick (strip t51_25) (.bool true) t55_28) fun t56_29 =>
 M.bind (gd (strip t56_29) false (M.pure (strip t27_4))) fun t58_30 =>
 M.bind (gd (strip t56_29) false (bi .eql .none t58_30 (.int .i64 0))) fun t59_31 =>
 M.bind (gd (strip t56_29) false (M.pure (strip t35_11))) fun t60_32 =>
 M.bind (gd (strip t56_29) false (bi .neq .bool t59_31 t60_32)) fun t61_33 =>
 M.bind (pick (strip t56_29) (.bool true) t61_33) fun t62_34 =>
 M.bind (gd (strip t62_34) false (M.pure (strip t27_4))) fun t64_35 =>
 M.bind (gd (strip t62_34) false (bi .neq .none t64_35 (.int .i64 0))) fun t65_36 =>
 M.bind (gd (strip t62_34) false (M.pure (strip t65_36))) fun t66_37 =>
 M.bind (gd t66_37 true (M.pure (strip t27_4))) fun t67_38 =>
 M.bind (gd t66_37 true (bi .neq .none t67_38 (.int .i64 50))) fun t68_39 =>
 M.bind (gd (strip t62_34) false (pick t66_37 t68_39 (.bool false))) fun t69_40 =>
 M.bind (pick (strip t62_34) (.bool true) t69_40) fun t70_41 =>
 condM t70_41
 (M.pure (.bool false))
 (M.bind (ld (some 6) false t9_12) fun t71_42 =>
 M.bind (C u52 [(strip t71_42)]) fun t72_43 =>
 M.bind (ld (some 6) false t9_12) fun t73_44 =>
 M.bind (C u1o [(strip t73_44)]) fun t74_45 =>
 M.bind (lnL (strip t72_43)) fun t76_46 =>
 M.bind (lnL (strip t74_45)) fun t78_47 =>
 M.bind (bi .neq .none t76_46 t78_47) fun t79_48 =>
 condM t79_48
 (M.pure (.bool false))
 (u07 a0 (.bool false) t72_43 t74_45 (.int .i64 0)))) := by
 rw [C, u0w _ _ rfl]; kernel_rfl
theorem u5n (a0 a1 : PV) : C u27 [a0, a1] =
 trunc (M.bind (bx 3 a0) fun t2_0 =>
 M.bind (bx 3 a1) fun t3_1 =>
 M.bind (fa 0 t2_0) fun t5_2 =>
 M.bind (ld none false t5_2) fun t6_3 =>
 M.bind (fa 0 t3_1) fun t7_4 =>
 M.bind (ld none false t7_4) fun t8_5 =>
 M.bind (bi .eql .none t6_3 t8_5) fun t9_6 =>
 M.bind (gd (strip t9_6) true (fa 0 t2_0)) fun t11_7 =>
 M.bind (gd (strip t9_6) true (ld none false t11_7)) fun t12_8 =>
 M.bind (gd (strip t9_6) true (bi .neq .none t12_8 (.int .i64 5))) fun t13_9 =>
 M.bind (gd (strip t9_6) true (M.pure (strip t13_9))) fun t14_10 =>
 M.bind (gd t14_10 false (fa 1 t2_0)) fun t15_11 =>
 M.bind (gd t14_10 false (ld none false t15_11)) fun t16_12 =>
 M.bind (gd t14_10 false (fa 1 t3_1)) fun t17_13 =>
 M.bind (gd t14_10 false (ld none false t17_13)) fun t18_14 =>
 M.bind (gd t14_10 false (bi .eql .bool t16_12 t18_14)) fun t19_15 =>
 M.bind (gd t14_10 false (M.pure (strip t19_15))) fun t20_16 =>
 M.bind (gd t20_16 true (fa 2 t2_0)) fun t21_17 =>
 M.bind (gd t20_16 true (ld none false t21_17)) fun t22_18 =>
 M.bind (gd t20_16 true (fa 2 t3_1)) fun t23_19 =>
 M.bind (gd t20_16 true (ld none false t23_19)) fun t24_20 =>
 M.bind (gd t20_16 true (bi .eql .none t22_18 t24_20)) fun t25_21 =>
 M.bind (gd t14_10 false (pick t20_16 t25_21 (.bool false))) fun t26_22 =>
 M.bind (gd (strip t9_6) true (pick t14_10 (.bool true) t26_22)) fun t27_23 =>
 M.bind (pick (strip t9_6) t27_23 (.bool false)) fun t28_24 =>
 resT t28_24 (M.pure t28_24)) := by
 rw [C, u0w _ _ rfl]; kernel_rfl
theorem u4y : C u2j [] =
 trunc (M.bind (bd [(.int .i64 0), (.bool false), (.int .i64 0)] [(0, 1, (.int .i64 1))]) fun t1_0 =>
 M.bind (C u4n [(strip t1_0)]) fun t2_1 =>
 M.bind (bi .eql .none t2_1 (.str ⟨#[105, 51, 50]⟩)) fun t3_2 =>
 resT t3_2 (M.pure t3_2)) := by
 rw [C, u0w _ _ rfl]; kernel_rfl
noncomputable def u37 (v4 v5 v6 v7 : PV) : M PV := atP P X u3r [1, 1] (mkEnv 39 0 [(4, v4), (5, v5), (6, v6), (7, v7)])
noncomputable def u2g (v1 v4 v5 v6 v7 v12 v13 v14 : PV) : M PV := atP P X u3r [1, 0, 1, 0, 1, 0] (mkEnv 39 0 [(1, v1), (4, v4), (5, v5), (6, v6), (7, v7), (12, v12), (13, v13), (14, v14)])
theorem u7i (v4 v5 v6 v7 : PV) : u37 v4 v5 v6 v7 =
 M.bind (bd [(.bool false), (.slice false true 0 []), (.int .i64 0), (.slice false true 0 []), (.slice false true 0 []), (.slice false true 0 [])] []) fun t38_0 =>
 M.bind (st 6 true v4 t38_0) fun _ =>
 M.bind (ld (some 6) true v4) fun t0_2 => guardM (!isTup t0_2) (M.pure (.tup [t0_2, (.int .i64 0), (.int .i64 0), (.int .i64 50)])) :=
 (u0n P X _ _ _).trans (by kernel_rfl)
theorem u2k (v1 v4 v5 v6 v7 v12 v13 v14 : PV) : u2g v1 v4 v5 v6 v7 v12 v13 v14 =
 M.bind (bi .lss .none v14 v13) fun t15_0 =>
 condM t15_0
 (M.bind (iaS 2 v12 (strip v14)) fun t17_1 =>
 M.bind (ld (some 2) true t17_1) fun t18_2 =>
 M.bind (al [(.slice false true 0 []), (.bool false)]) fun t9_3 =>
 M.bind (st 2 true t9_3 t18_2) fun _ =>
 M.bind (fa 0 t9_3) fun t20_5 =>
 M.bind (ld none false t20_5) fun t21_6 =>
 M.bind (lnL t21_6) fun t22_7 =>
 M.bind (bi .lss .none (strip v1) t22_7) fun t23_8 =>
 condM t23_8
 (M.bind (fa 0 t9_3) fun t24_9 =>
 M.bind (ld none false t24_9) fun t25_10 =>
 M.bind (iaS 6 t25_10 (strip v1)) fun t27_11 =>
 M.bind (ld (some 6) false t27_11) fun t28_12 =>
 M.bind (C u0r [(strip t28_12), (.fn u2v [] [])]) fun t29_13 =>
 M.bind (st 6 true v4 t29_13) fun _ =>
 M.bind (ld (some 6) true v4) fun t0_15 => guardM (!isTup t0_15) (resT v14 (resT v1 (M.pure (.tup [t0_15, v14, v1, (.int .i64 0)])))))
 (M.bind (fa 0 t9_3) fun t33_16 =>
 M.bind (ld none false t33_16) fun t34_17 =>
 M.bind (lnL t34_17) fun t35_18 =>
 M.bind (bi .sub .none (strip v1) t35_18) fun t36_19 =>
 M.bind (bi .add .none (strip v14) (.int .i64 1)) fun t37_20 =>
 u2g t36_19 v4 v5 v6 v7 v12 v13 (strip t37_20)))
 (u37 v4 v5 v6 v7) :=
 (u0n P X _ _ _).trans (by kernel_rfl)
theorem uf3 (a0 a1 : PV) : C u3r [a0, a1] =
 trunc (M.bind (al [(.bool false), (.slice false true 0 []), (.int .i64 0), (.slice false true 0 []), (.slice false true 0 []), (.slice false true 0 [])]) fun t4_0 =>
 M.bind (bi .geq .none (strip a1) (.int .i64 0)) fun t11_1 =>
 condM t11_1
 (M.bind (lnL (strip a0)) fun t13_2 =>
 u2g a1 t4_0 (.int .i64 0) (.int .i64 0) (.int .i64 0) (strip a0) t13_2 (.int .i64 0))
 (u37 t4_0 (.int .i64 0) (.int .i64 0) (.int .i64 0))) := by
 rw [C, u0w _ _ rfl]; kernel_rfl
noncomputable def u1k (v0 v1 v4 v5 v6 v7 v8 : PV) : M PV := atP P X u20 [1, 1, 0, 1, 0] (mkEnv 45 0 [(0, v0), (1, v1), (4, v4), (5, v5), (6, v6), (7, v7), (8, v8)])
theorem u1r (v0 v1 v4 v5 v6 v7 v8 : PV) : u1k v0 v1 v4 v5 v6 v7 v8 =
 M.bind (lnL (strip v0)) fun t14_0 =>
 M.bind (bi .lss .none (strip v8) t14_0) fun t15_1 =>
 condM t15_1
 (M.bind (iaS 2 (strip v0) (strip v8)) fun t21_2 =>
 M.bind (fa 0 t21_2) fun t22_3 =>
 M.bind (ld none false t22_3) fun t23_4 =>
 M.bind (lnL t23_4) fun t24_5 =>
 M.bind (bi .lss .none (strip v1) t24_5) fun t25_6 =>
 condM t25_6
 (M.bind (iaS 2 (strip v0) (strip v8)) fun t28_7 =>
 M.bind (fa 0 t28_7) fun t29_8 =>
 M.bind (ld none false t29_8) fun t30_9 =>
 M.bind (iaS 6 t30_9 (strip v1)) fun t32_10 =>
 M.bind (ld (some 6) true t32_10) fun t33_11 =>
 M.bind (st 6 true v4 t33_11) fun _ =>
 M.bind (ld (some 6) true v4) fun t0_13 => guardM (!isTup t0_13) (resT v8 (resT v1 (M.pure (.tup [t0_13, v8, v1, (.bool true)])))))
 (M.bind (iaS 2 (strip v0) (strip v8)) fun t39_14 =>
 M.bind (fa 0 t39_14) fun t40_15 =>
 M.bind (ld none false t40_15) fun t41_16 =>
 M.bind (lnL t41_16) fun t42_17 =>
 M.bind (bi .sub .none (strip v1) t42_17) fun t43_18 =>
 M.bind (bi .add .none (strip v8) (.int .i64 1)) fun t17_19 =>
 u1k v0 t43_18 v4 v5 v6 v7 t17_19))
 (M.bind (bd [(.bool false), (.slice false true 0 []), (.int .i64 0), (.slice false true 0 []), (.slice false true 0 []), (.slice false true 0 [])] []) fun t44_20 =>
 M.bind (st 6 true v4 t44_20) fun _ =>
 M.bind (ld (some 6) true v4) fun t0_22 => guardM (!isTup t0_22) (M.pure (.tup [t0_22, (.int .i64 0), (.int .i64 0), (.bool false)]))) :=
 (u0n P X _ _ _).trans (by kernel_rfl)
theorem u69 (a0 a1 : PV) : C u20 [a0, a1] =
 trunc (M.bind (al [(.bool false), (.slice false true 0 []), (.int .i64 0), (.slice false true 0 []), (.slice false true 0 []), (.slice false true 0 [])]) fun t4_0 =>
 M.bind (bi .lss .none (strip a1) (.int .i64 0)) fun t10_1 =>
 condM t10_1
 (M.bind (bd [(.bool false), (.slice false true 0 []), (.int .i64 0), (.slice false true 0 []), (.slice false true 0 []), (.slice false true 0 [])] []) fun t11_2 =>
 M.bind (st 6 true t4_0 t11_2) fun _ =>
 M.bind (ld (some 6) true t4_0) fun t0_4 => guardM (!isTup t0_4) (M.pure (.tup [t0_4, (.int .i64 0), (.int .i64 0), (.bool false)])))
 (u1k a0 a1 t4_0 (.int .i64 0) (.int .i64 0) (.bool false) (.int .i64 0))) := by
 rw [C, u0w _ _ rfl]; kernel_rfl
noncomputable def u25 (v2 v3 v6 v7 v8 : PV) : M PV := atP P X u3m [1, 1, 0, 1, 0] (mkEnv 19 0 [(2, v2), (3, v3), (6, v6), (7, v7), (8, v8)])
theorem u39 (v2 v3 v6 v7 v8 : PV) : u25 v2 v3 v6 v7 v8 =
 M.bind (bi .lss .none v8 v7) fun t9_0 =>
 condM t9_0
 (M.bind (iaS 2 v6 v8) fun t10_1 =>
 M.bind (ld (some 2) true t10_1) fun t11_2 =>
 M.bind (al [(.slice false true 0 []), (.bool false)]) fun t5_3 =>
 M.bind (st 2 true t5_3 t11_2) fun _ =>
 M.bind (fa 0 t5_3) fun t13_5 =>
 M.bind (ld none false t13_5) fun t14_6 =>
 M.bind (lnL t14_6) fun t15_7 =>
 M.bind (bi .add .none (strip v3) t15_7) fun t16_8 =>
 M.bind (bi .add .none v8 (.int .i64 1)) fun t17_9 =>
 u25 v2 t16_8 v6 v7 (strip t17_9))
 (resT v3 (M.pure v3)) :=
 (u0n P X _ _ _).trans (by kernel_rfl)
theorem u9x (a0 : PV) : C u3m [a0] =
 trunc (M.bind (lnL (strip a0)) fun t7_0 =>
 u25 (.int .i64 0) (.int .i64 0) (strip a0) t7_0 (.int .i64 0)) := by
 rw [C, u0w _ _ rfl]; kernel_rfl
noncomputable def u14 (v0 v2 v3 v4 : PV) : M PV := atP P X u1y [1, 1, 0, 1, 0] (mkEnv 20 0 [(0, v0), (2, v2), (3, v3), (4, v4)])
theorem u28 (v0 v2 v3 v4 : PV) : u14 v0 v2 v3 v4 =
 M.bind (lnL (strip v0)) fun t7_0 =>
 M.bind (bi .lss .none (strip v4) t7_0) fun t8_1 =>
 condM t8_1
 (M.bind (iaS 2 (strip v0) (strip v4)) fun t14_2 =>
 M.bind (fa 0 t14_2) fun t15_3 =>
 M.bind (ld none false t15_3) fun t16_4 =>
 M.bind (lnL t16_4) fun t17_5 =>
 M.bind (bi .add .none (strip v3) t17_5) fun t18_6 =>
 M.bind (bi .add .none (strip v4) (.int .i64 1)) fun t10_7 =>
 u14 v0 v2 t18_6 t10_7)
 (resT v3 (M.pure v3)) :=
 (u0n P X _ _ _).trans (by kernel_rfl)
theorem u4x (a0 : PV) : C u1y [a0] =
 trunc (u14 a0 (.int .i64 0) (.int .i64 0) (.int .i64 0)) := by
 rw [C, u0w _ _ rfl]; kernel_rfl
noncomputable def u0h (v2 v3 v4 v5 : PV) : M PV := atP P X u1p [1, 1, 0, 1, 0] (mkEnv 72 0 [(2, v2), (3, v3), (4, v4), (5, v5)])
theorem u21 (v2 v3 v4 v5 : PV) : u0h v2 v3 v4 v5 =
 M.bind (fa 1 v2) fun t30_0 =>
 M.bind (ld none false t30_0) fun t31_1 =>
 M.bind (lnL t31_1) fun t32_2 =>
 M.bind (bi .lss .none (strip v5) t32_2) fun t33_3 =>
 condM t33_3
 (nb (fa 1 v2) fun t36_4 =>
 nb (ld none false t36_4) fun t37_5 =>
 nb (iaS 1 t37_5 (strip v5)) fun t39_6 =>
 nb (ld none false t39_6) fun t40_7 =>
 nb (fa 1 v3) fun t41_8 =>
 nb (ld none false t41_8) fun t42_9 =>
 nb (iaS 1 t42_9 (strip v5)) fun t44_10 =>
 nb (ld none false t44_10) fun t45_11 =>
 nb (bi .neq .none t40_7 t45_11) fun t46_12 =>
 condM t46_12
 (M.pure (.bool false))
 (M.bind (bi .add .none (strip v5) (.int .i64 1)) fun t35_13 =>
 u0h v2 v3 v4 t35_13))
 (M.bind (fa 2 v2) fun t47_14 =>
 M.bind (fa 1 t47_14) fun t48_15 =>
 M.bind (ld none false t48_15) fun t49_16 =>
 M.bind (fa 2 v3) fun t50_17 =>
 M.bind (fa 1 t50_17) fun t51_18 =>
 M.bind (ld none false t51_18) fun t52_19 =>
 M.bind (C u0y [(strip t49_16), (strip t52_19)]) fun t53_20 =>
 M.bind (gd (strip t53_20) true (fa 2 v2)) fun t55_21 =>
 M.bind (gd (strip t53_20) true (fa 2 t55_21)) fun t56_22 =>
 M.bind (gd (strip t53_20) true (ld none false t56_22)) fun t57_23 =>
 M.bind (gd (strip t53_20) true (fa 2 v3)) fun t58_24 =>
 M.bind (gd (strip t53_20) true (fa 2 t58_24)) fun t59_25 =>
 M.bind (gd (strip t53_20) true (ld none false t59_25)) fun t60_26 =>
 M.bind (gd (strip t53_20) true (C u0y [(strip t57_23), (strip t60_26)])) fun t61_27 =>
 M.bind (pick (strip t53_20) t61_27 (.bool false)) fun t62_28 =>
 M.bind (gd (strip t62_28) true (fa 2 v2)) fun t64_29 =>
 M.bind (gd (strip t62_28) true (fa 3 t64_29)) fun t65_30 =>
 M.bind (gd (strip t62_28) true (ld none false t65_30)) fun t66_31 =>
 M.bind (gd (strip t62_28) true (fa 2 v3)) fun t67_32 =>
 M.bind (gd (strip t62_28) true (fa 3 t67_32)) fun t68_33 =>
 M.bind (gd (strip t62_28) true (ld none false t68_33)) fun t69_34 =>
 M.bind (gd (strip t62_28) true (C u1b [(strip t66_31), (strip t69_34)])) fun t70_35 =>
 M.bind (pick (strip t62_28) t70_35 (.bool false)) fun t71_36 =>
 resT t71_36 (M.pure t71_36)) :=
 (u0n P X _ _ _).trans (by kernel_rfl)
theorem u4a (a0 a1 : PV) : C u1p [a0, a1] =
 trunc (M.bind (bx 6 a0) fun t2_0 =>
 M.bind (bx 6 a1) fun t3_1 =>
 M.bind (fa 0 t2_0) fun t6_2 =>
 M.bind (ld none false t6_2) fun t7_3 =>
 M.bind (fa 0 t3_1) fun t8_4 =>
 M.bind (ld none false t8_4) fun t9_5 =>
 M.bind (bi .neq .bool t7_3 t9_5) fun t10_6 =>
 M.bind (gd (strip t10_6) false (fa 1 t2_0)) fun t12_7 =>
 M.bind (gd (strip t10_6) false (ld none false t12_7)) fun t13_8 =>
 M.bind (gd (strip t10_6) false (lnL t13_8)) fun t14_9 =>
 M.bind (gd (strip t10_6) false (fa 1 t3_1)) fun t15_10 =>
 M.bind (gd (strip t10_6) false (ld none false t15_10)) fun t16_11 =>
 M.bind (gd (strip t10_6) false (lnL t16_11)) fun t17_12 =>
 M.bind (gd (strip t10_6) false (bi .neq .none t14_9 t17_12)) fun t18_13 =>
 M.bind (pick (strip t10_6) (.bool true) t18_13) fun t19_14 =>
 M.bind (gd (strip t19_14) false (fa 2 t2_0)) fun t21_15 =>
 M.bind (gd (strip t19_14) false (fa 0 t21_15)) fun t22_16 =>
 M.bind (gd (strip t19_14) false (ld none false t22_16)) fun t23_17 =>
 M.bind (gd (strip t19_14) false (fa 2 t3_1)) fun t24_18 =>
 M.bind (gd (strip t19_14) false (fa 0 t24_18)) fun t25_19 =>
 M.bind (gd (strip t19_14) false (ld none false t25_19)) fun t26_20 =>
 M.bind (gd (strip t19_14) false (bi .neq .none t23_17 t26_20)) fun t27_21 =>
 M.bind (pick (strip t19_14) (.bool true) t27_21) fun t28_22 =>
 condM t28_22
 (M.pure (.bool false))
 (u0h t2_0 t3_1 (.bool false) (.int .i64 0))) := by
 rw [C, u0w _ _ rfl]; kernel_rfl
theorem ubn (a0 : PV) : C u52 [a0] =
 trunc (M.bind (bx 6 a0) fun t1_0 =>
 M.bind (al [(.slice false true 0 [])]) fun t3_1 =>
 M.bind (ld (some 6) false t1_0) fun t4_2 =>
 M.bind (mf u2n [] [t3_1]) fun t5_3 =>
 M.bind (C u0r [(strip t4_2), (strip t5_3)]) fun t6_4 =>
 M.bind (ld none true t3_1) fun t7_5 =>
 resT t7_5 (M.pure t7_5)) := by
 rw [C, u0w _ _ rfl]; kernel_rfl
noncomputable def u16 (v2 v3 v4 v5 : PV) : M PV := atP P X u1o [1, 1, 1, 0, 1, 0] (mkEnv 27 0 [(2, v2), (3, v3), (4, v4), (5, v5)])
noncomputable def u1g (v2 v3 v4 v5 : PV) : M PV := atP P X u1o [1, 1, 1, 0, 1, 0, 0, 1, 1] (mkEnv 27 0 [(2, v2), (3, v3), (4, v4), (5, v5)])
theorem u29 (v2 v3 v4 v5 : PV) : u16 v2 v3 v4 v5 =
 M.bind (lnL (strip v3)) fun t10_0 =>
 M.bind (bi .lss .none (strip v5) t10_0) fun t11_1 =>
 condM t11_1
 (M.bind (iaS 1 (strip v3) (strip v5)) fun t16_2 =>
 M.bind (ld none false t16_2) fun t17_3 =>
 M.bind (bi .geq .none t17_3 (.int .i64 0)) fun t18_4 =>
 condM t18_4
 (M.bind (iaS 1 (strip v3) (strip v5)) fun t22_5 =>
 M.bind (ld none false t22_5) fun t23_6 =>
 M.bind (bs true none [t23_6]) fun t24_7 =>
 M.bind (ap true 1 8 v4 t24_7) fun t25_8 =>
 u1g v2 v3 t25_8 v5)
 (u1g v2 v3 v4 v5))
 (resT v4 (M.pure v4)) :=
 (u0n P X _ _ _).trans (by kernel_rfl)
theorem u1w (v2 v3 v4 v5 : PV) : u1g v2 v3 v4 v5 =
 M.bind (bi .add .none (strip v5) (.int .i64 1)) fun t13_0 =>
 u16 v2 v3 v4 t13_0 :=
 (u0n P X _ _ _).trans (by kernel_rfl)
theorem u5l (a0 : PV) : C u1o [a0] =
 trunc (M.bind (bx 6 a0) fun t1_0 =>
 M.bind (ld (some 6) false t1_0) fun t6_1 =>
 M.bind (C u1t [(strip t6_1)]) fun t7_2 =>
 u16 (.slice false true 0 []) t7_2 (.slice false true 0 []) (.int .i64 0)) := by
 rw [C, u0w _ _ rfl]; kernel_rfl
noncomputable def u1j (v2 v3 v4 v5 v13 v14 v15 : PV) : M PV := atP P X u2c [1, 1, 0, 1, 0] (mkEnv 54 0 [(2, v2), (3, v3), (4, v4), (5, v5), (13, v13), (14, v14), (15, v15)])
noncomputable def u0a (v2 v3 v4 v5 v13 v14 v15 v25 v26 v27 : PV) : M PV := atP P X u2c [1, 1, 0, 1, 0, 0, 1, 1, 0, 0, 1, 1, 1, 0] (mkEnv 54 0 [(2, v2), (3, v3), (4, v4), (5, v5), (13, v13), (14, v14), (15, v15), (25, v25), (26, v26), (27, v27)])
noncomputable def u06 (v2 v3 v4 v5 v9 v10 v13 v14 v15 v25 v26 v27 v32 v33 v34 : PV) : M PV := atP P X u2c [1, 1, 0, 1, 0, 0, 1, 1, 0, 0, 1, 1, 1, 0, 0, 1, 1, 0, 0, 1, 1, 0, 1, 0] (mkEnv 54 0 [(2, v2), (3, v3), (4, v4), (5, v5), (9, v9), (10, v10), (13, v13), (14, v14), (15, v15), (25, v25), (26, v26), (27, v27), (32, v32), (33, v33), (34, v34)])
theorem u33 (v2 v3 v4 v5 v13 v14 v15 : PV) : u1j v2 v3 v4 v5 v13 v14 v15 =
 M.bind (bi .lss .none v15 v14) fun t16_0 =>
 condM t16_0
 (M.bind (iaS 2 v13 v15) fun t17_1 =>
 M.bind (ld (some 2) true t17_1) fun t18_2 =>
 M.bind (al [(.slice false true 0 []), (.bool false)]) fun t7_3 =>
 M.bind (st 2 true t7_3 t18_2) fun _ =>
 M.bind (ld none false v5) fun t19_5 =>
 M.bind (fa 0 t7_3) fun t20_6 =>
 M.bind (ld none false t20_6) fun t21_7 =>
 M.bind (lnL t21_7) fun t22_8 =>
 M.bind (bi .add .none t19_5 t22_8) fun t23_9 =>
 M.bind (st 1 true v5 t23_9) fun _ =>
 M.bind (fa 0 t7_3) fun t24_11 =>
 M.bind (ld none false t24_11) fun t25_12 =>
 M.bind (lnL t25_12) fun t26_13 =>
 u0a v2 v3 v4 v5 v13 v14 v15 t25_12 t26_13 (.int .i64 0))
 (M.pure (.tup [(.int .i64 0), (.int .i64 0)])) :=
 (u0n P X _ _ _).trans (by kernel_rfl)
theorem u13 (v2 v3 v4 v5 v13 v14 v15 v25 v26 v27 : PV) : u0a v2 v3 v4 v5 v13 v14 v15 v25 v26 v27 =
 M.bind (bi .lss .none v27 v26) fun t28_0 =>
 condM t28_0
 (M.bind (iaS 6 v25 v27) fun t29_1 =>
 M.bind (ld (some 6) true t29_1) fun t30_2 =>
 M.bind (al [(.bool false), (.slice false true 0 []), (.int .i64 0), (.slice false true 0 []), (.slice false true 0 []), (.slice false true 0 [])]) fun t9_3 =>
 M.bind (st 6 true t9_3 t30_2) fun _ =>
 M.bind (al [(.bool false)]) fun t10_5 =>
 M.bind (st 1 false t10_5 (.bool true)) fun _ =>
 M.bind (fa 1 t9_3) fun t31_7 =>
 M.bind (ld none false t31_7) fun t32_8 =>
 M.bind (lnL t32_8) fun t33_9 =>
 u06 v2 v3 v4 v5 t9_3 t10_5 v13 v14 v15 v25 v26 v27 t32_8 t33_9 (.int .i64 0))
 (M.bind (bi .add .none v15 (.int .i64 1)) fun t53_10 =>
 u1j v2 v3 v4 v5 v13 v14 (strip t53_10)) :=
 (u0n P X _ _ _).trans (by kernel_rfl)
theorem u0e (v2 v3 v4 v5 v9 v10 v13 v14 v15 v25 v26 v27 v32 v33 v34 : PV) : u06 v2 v3 v4 v5 v9 v10 v13 v14 v15 v25 v26 v27 v32 v33 v34 =
 M.bind (bi .lss .none v34 v33) fun t35_0 =>
 condM t35_0
 (M.bind (iaS 1 v32 v34) fun t36_1 =>
 M.bind (ld none true t36_1) fun t37_2 =>
 M.bind (ld none false v10) fun t38_3 =>
 M.bind (gd (strip t38_3) true (M.pure (strip t37_2))) fun t40_4 =>
 M.bind (gd (strip t38_3) true (bi .geq .none t40_4 (.int .i64 0))) fun t41_5 =>
 M.bind (pick (strip t38_3) t41_5 (.bool false)) fun t42_6 =>
 M.bind (st 1 true v10 t42_6) fun _ =>
 M.bind (bi .add .none v34 (.int .i64 1)) fun t43_8 =>
 u06 v2 v3 v4 v5 v9 v10 v13 v14 v15 v25 v26 v27 v32 v33 (strip t43_8))
 (M.bind (ld (some 6) false v9) fun t44_9 =>
 M.bind (mf u2p [] [v10, v5]) fun t45_10 =>
 M.bind (C u0r [(strip t44_9), (strip t45_10)]) fun t46_11 =>
 M.bind (ld none false v10) fun t47_12 =>
 M.bind (un .not t47_12) fun t48_13 =>
 condM t48_13
 (resT v4 (M.pure (.tup [v4, (.int .i64 50)])))
 (M.bind (bi .add .none (strip v4) (.int .i64 1)) fun t51_14 =>
 M.bind (bi .add .none v27 (.int .i64 1)) fun t52_15 =>
 u0a v2 v3 t51_14 v5 v13 v14 v15 v25 v26 (strip t52_15))) :=
 (u0n P X _ _ _).trans (by kernel_rfl)
theorem u8m (a0 : PV) : C u2c [a0] =
 trunc (M.bind (al [(.int .i64 0)]) fun t5_0 =>
 M.bind (st 1 false t5_0 (.int .i64 0)) fun _ =>
 M.bind (lnL (strip a0)) fun t14_2 =>
 u1j (.int .i64 0) (.int .i64 0) (.int .i64 0) t5_0 (strip a0) t14_2 (.int .i64 0)) := by
 rw [C, u0w _ _ rfl]; kernel_rfl
noncomputable def u0k (v0 v2 v3 v4 v5 : PV) : M PV := atP P X u1c [1, 1, 0, 1, 0] (mkEnv 47 0 [(0, v0), (2, v2), (3, v3), (4, v4), (5, v5)])
noncomputable def u0d (v0 v2 v3 v4 v5 v6 v7 : PV) : M PV := atP P X u1c [1, 1, 0, 1, 0, 0, 1, 0, 0, 1, 0, 1, 0] (mkEnv 47 0 [(0, v0), (2, v2), (3, v3), (4, v4), (5, v5), (6, v6), (7, v7)])
theorem u22 (v0 v2 v3 v4 v5 : PV) : u0k v0 v2 v3 v4 v5 =
 M.bind (lnL (strip v0)) fun t10_0 =>
 M.bind (bi .lss .none (strip v5) t10_0) fun t11_1 =>
 condM t11_1
 (M.bind (iaS 2 (strip v0) (strip v5)) fun t17_2 =>
 M.bind (fa 0 t17_2) fun t18_3 =>
 M.bind (ld none false t18_3) fun t19_4 =>
 M.bind (lnL t19_4) fun t20_5 =>
 M.bind (bi .add .none (strip v4) t20_5) fun t21_6 =>
 u0d v0 v2 v3 v4 v5 t21_6 (.int .i64 0))
 (M.pure (.tup [(.int .i64 0), (.int .i64 0)])) :=
 (u0n P X _ _ _).trans (by kernel_rfl)
theorem u1e (v0 v2 v3 v4 v5 v6 v7 : PV) : u0d v0 v2 v3 v4 v5 v6 v7 =
 M.bind (iaS 2 (strip v0) (strip v5)) fun t25_0 =>
 M.bind (fa 0 t25_0) fun t26_1 =>
 M.bind (ld none false t26_1) fun t27_2 =>
 M.bind (lnL t27_2) fun t28_3 =>
 M.bind (bi .lss .none (strip v7) t28_3) fun t29_4 =>
 condM t29_4
 (M.bind (iaS 2 (strip v0) (strip v5)) fun t34_5 =>
 M.bind (fa 0 t34_5) fun t35_6 =>
 M.bind (ld none false t35_6) fun t36_7 =>
 M.bind (iaS 6 t36_7 (strip v7)) fun t38_8 =>
 M.bind (ld (some 6) false t38_8) fun t39_9 =>
 M.bind (C u1n [(strip t39_9), (strip (strip v6))]) fun t41_10 =>
 M.bind (un .not t41_10) fun t42_11 =>
 condM t42_11
 (M.bind (bi .add .none (strip v4) (strip v7)) fun t45_12 =>
 resT t45_12 (M.pure (.tup [t45_12, (.int .i64 50)])))
 (M.bind (bi .add .none (strip v7) (.int .i64 1)) fun t31_13 =>
 u0d v0 v2 v3 v4 v5 v6 t31_13))
 (M.bind (bi .add .none (strip v5) (.int .i64 1)) fun t13_14 =>
 u0k v0 v2 v3 v6 t13_14) :=
 (u0n P X _ _ _).trans (by kernel_rfl)
theorem u4m (a0 : PV) : C u1c [a0] =
 trunc (u0k a0 (.int .i64 0) (.int .i64 0) (.int .i64 0) (.int .i64 0)) := by
 rw [C, u0w _ _ rfl]; kernel_rfl
end Go.Proofs.YtiiepllnnjjmaaaDoor.Pi.Q
namespace Go.Proofs.YtiiepllnnjjmaaaDoor.Pi.Q
open Go Go.Proofs.YtiiepllnnjjmaaaDoor.Pi
theorem ubq (a0 : PV) : C u4n [a0] =
 trunc (M.bind (bx 3 a0) fun t1_0 =>
 M.bind (fa 0 t1_0) fun t4_1 =>
 M.bind (ld none false t4_1) fun t5_2 =>
 M.bind (bi .eql .none t5_2 (.int .i64 5)) fun t6_3 =>
 M.bind (gd (strip t6_3) true (fa 1 t1_0)) fun t8_4 =>
 M.bind (gd (strip t6_3) true (ld none false t8_4)) fun t9_5 =>
 M.bind (pick (strip t6_3) t9_5 (.bool false)) fun t10_6 =>
 condM t10_6
 (M.bind (fa 2 t1_0) fun t11_7 =>
 M.bind (ld none false t11_7) fun t12_8 =>
 M.bind (C u4l [(strip t12_8)]) fun t13_9 =>
 M.bind (bi .add .none (.str ⟨#[40, 114, 101, 102, 32, 110, 117, 108, 108, 32]⟩) t13_9) fun t14_10 =>
 M.bind (bi .add .none t14_10 (.str ⟨#[41]⟩)) fun t15_11 =>
 resT t15_11 (M.pure t15_11))
 (M.bind (fa 0 t1_0) fun t17_12 =>
 M.bind (ld none false t17_12) fun t18_13 =>
 M.bind (bi .eql .none t18_13 (.int .i64 5)) fun t19_14 =>
 condM t19_14
 (M.bind (fa 2 t1_0) fun t20_15 =>
 M.bind (ld none false t20_15) fun t21_16 =>
 M.bind (C u4l [(strip t21_16)]) fun t22_17 =>
 M.bind (bi .add .none (.str ⟨#[40, 114, 101, 102, 32]⟩) t22_17) fun t23_18 =>
 M.bind (bi .add .none t23_18 (.str ⟨#[41]⟩)) fun t24_19 =>
 resT t24_19 (M.pure t24_19))
 (M.bind (fa 0 t1_0) fun t26_20 =>
 M.bind (ld none false t26_20) fun t27_21 =>
 M.bind (bi .geq .none t27_21 (.int .i64 1)) fun t28_22 =>
 M.bind (gd (strip t28_22) true (fa 0 t1_0)) fun t30_23 =>
 M.bind (gd (strip t28_22) true (ld none false t30_23)) fun t31_24 =>
 M.bind (gd (strip t28_22) true (bi .leq .none t31_24 (.int .i64 7))) fun t32_25 =>
 M.bind (pick (strip t28_22) t32_25 (.bool false)) fun t33_26 =>
 condM t33_26
 (nb (C u3v []) fun t34_27 =>
 nb (fa 0 t1_0) fun t35_28 =>
 nb (ld none false t35_28) fun t36_29 =>
 nb (ixA 8 1 none t34_27 t36_29) fun t37_30 =>
 resT t37_30 (M.pure t37_30))
 (M.pure (.str ⟨#[63]⟩))))) := by
 rw [C, u0w _ _ rfl]; kernel_rfl
end Go.Proofs.YtiiepllnnjjmaaaDoor.Pi.Q
namespace Go.Proofs.YtiiepllnnjjmaaaDoor.Pi.Q
open Go Go.Proofs.YtiiepllnnjjmaaaDoor.Pi
noncomputable def u0u (v2 v3 v4 v5 v6 v24 v25 v26 : PV) : M PV := atP P X u0r [1, 1, 1, 0, 1, 0] (mkEnv 101 0 [(2, v2), (3, v3), (4, v4), (5, v5), (6, v6), (24, v24), (25, v25), (26, v26)])
noncomputable def u0g (v2 v4 v5 v6 v41 v42 v43 : PV) : M PV := atP P X u0r [1, 1, 1, 1, 0, 1, 0] (mkEnv 101 0 [(2, v2), (4, v4), (5, v5), (6, v6), (41, v41), (42, v42), (43, v43)])
noncomputable def u0c (v2 v4 v5 v6 v60 v61 v62 : PV) : M PV := atP P X u0r [1, 1, 1, 1, 1, 0, 1, 0] (mkEnv 101 0 [(2, v2), (4, v4), (5, v5), (6, v6), (60, v60), (61, v61), (62, v62)])
noncomputable def u0b (v4 v5 v6 v79 v80 v81 : PV) : M PV := atP P X u0r [1, 1, 1, 1, 1, 1, 0, 1, 0] (mkEnv 101 0 [(4, v4), (5, v5), (6, v6), (79, v79), (80, v80), (81, v81)])
theorem u2x (v2 v3 v4 v5 v6 v24 v25 v26 : PV) : u0u v2 v3 v4 v5 v6 v24 v25 v26 =
 M.bind (bi .lss .none v26 v25) fun t27_0 =>
 condM t27_0
 (M.bind (iaS 1 v24 v26) fun t28_1 =>
 M.bind (ld none true t28_1) fun t29_2 =>
 chk
 (M.bind (noPan (fa 1 v6)) fun t30_12 =>
 M.bind (noPan (M.pure (strip t29_2))) fun t33_13 =>
 M.bind (noPan (ld none false v3)) fun t32_14 =>
 M.bind (noPan (ld none true t30_12)) fun t31_15 =>
 M.bind (noPan (callV P C t32_14 [(strip t33_13)])) fun t34_16 =>
 M.bind (noPan (bs true none [t34_16])) fun t35_17 =>
 M.bind (noPan (ap true 1 8 t31_15 t35_17)) fun t36_18 =>
 M.bind (noPan (fa 1 v6)) fun t37_19 =>
 M.bind (noPan (st 1 true t37_19 t36_18)) fun _ =>
 M.pure [PV.undef, PV.undef, v2, v3, v4, v5, v6, PV.undef, t29_2, PV.undef, PV.undef, PV.undef, PV.undef, PV.undef, PV.undef, PV.undef, PV.undef, PV.undef, PV.undef, PV.undef, PV.undef, PV.undef, PV.undef, PV.undef, v24, v25, v26, t27_0, t28_1, (strip t29_2), t30_12, (strip t31_15), t32_14, t33_13, t34_16, t35_17, (strip t36_18), t37_19, PV.undef, PV.undef, PV.undef, PV.undef, PV.undef, PV.undef, PV.undef, PV.undef, PV.undef, PV.undef, PV.undef, PV.undef, PV.undef, PV.undef, PV.undef, PV.undef, PV.undef, PV.undef, PV.undef, PV.undef, PV.undef, PV.undef, PV.undef, PV.undef, PV.undef, PV.undef, PV.undef, PV.undef, PV.undef, PV.undef, PV.undef, PV.undef, PV.undef, PV.undef, PV.undef, PV.undef, PV.undef, PV.undef, PV.undef, PV.undef, PV.undef, PV.undef, PV.undef, PV.undef, PV.undef, PV.undef, PV.undef, PV.undef, PV.undef, PV.undef, PV.undef, PV.undef, PV.undef, PV.undef, PV.undef, PV.undef, PV.undef, PV.undef, PV.undef, PV.undef, PV.undef, PV.undef, PV.undef])
 (M.bind (noPan (fa 1 v6)) fun t30_3 =>
 M.bind (noPan (M.pure (strip t29_2))) fun t33_4 =>
 M.bind (noPan (ld none true t30_3)) fun t31_5 =>
 M.bind (noPan (ld none false v3)) fun t32_6 =>
 M.bind (noPan (callV P C t32_6 [(strip t33_4)])) fun t34_7 =>
 M.bind (noPan (bs true none [t34_7])) fun t35_8 =>
 M.bind (noPan (ap true 1 8 t31_5 t35_8)) fun t36_9 =>
 M.bind (noPan (fa 1 v6)) fun t37_10 =>
 M.bind (noPan (st 1 true t37_10 t36_9)) fun _ =>
 M.pure [PV.undef, PV.undef, v2, v3, v4, v5, v6, PV.undef, t29_2, PV.undef, PV.undef, PV.undef, PV.undef, PV.undef, PV.undef, PV.undef, PV.undef, PV.undef, PV.undef, PV.undef, PV.undef, PV.undef, PV.undef, PV.undef, v24, v25, v26, t27_0, t28_1, (strip t29_2), t30_3, (strip t31_5), t32_6, t33_4, t34_7, t35_8, (strip t36_9), t37_10, PV.undef, PV.undef, PV.undef, PV.undef, PV.undef, PV.undef, PV.undef, PV.undef, PV.undef, PV.undef, PV.undef, PV.undef, PV.undef, PV.undef, PV.undef, PV.undef, PV.undef, PV.undef, PV.undef, PV.undef, PV.undef, PV.undef, PV.undef, PV.undef, PV.undef, PV.undef, PV.undef, PV.undef, PV.undef, PV.undef, PV.undef, PV.undef, PV.undef, PV.undef, PV.undef, PV.undef, PV.undef, PV.undef, PV.undef, PV.undef, PV.undef, PV.undef, PV.undef, PV.undef, PV.undef, PV.undef, PV.undef, PV.undef, PV.undef, PV.undef, PV.undef, PV.undef, PV.undef, PV.undef, PV.undef, PV.undef, PV.undef, PV.undef, PV.undef, PV.undef, PV.undef, PV.undef, PV.undef]) <|
 chk
 (M.bind (noPan (fa 1 v6)) fun t30_21 =>
 M.bind (noPan (M.pure (strip t29_2))) fun t33_22 =>
 M.bind (noPan (ld none false v3)) fun t32_23 =>
 M.bind (noPan (callV P C t32_23 [(strip t33_22)])) fun t34_24 =>
 M.bind (noPan (bs true none [t34_24])) fun t35_25 =>
 M.bind (noPan (ld none true t30_21)) fun t31_26 =>
 M.bind (noPan (ap true 1 8 t31_26 t35_25)) fun t36_27 =>
 M.bind (noPan (fa 1 v6)) fun t37_28 =>
 M.bind (noPan (st 1 true t37_28 t36_27)) fun _ =>
 M.pure [PV.undef, PV.undef, v2, v3, v4, v5, v6, PV.undef, t29_2, PV.undef, PV.undef, PV.undef, PV.undef, PV.undef, PV.undef, PV.undef, PV.undef, PV.undef, PV.undef, PV.undef, PV.undef, PV.undef, PV.undef, PV.undef, v24, v25, v26, t27_0, t28_1, (strip t29_2), t30_21, (strip t31_26), t32_23, t33_22, t34_24, t35_25, (strip t36_27), t37_28, PV.undef, PV.undef, PV.undef, PV.undef, PV.undef, PV.undef, PV.undef, PV.undef, PV.undef, PV.undef, PV.undef, PV.undef, PV.undef, PV.undef, PV.undef, PV.undef, PV.undef, PV.undef, PV.undef, PV.undef, PV.undef, PV.undef, PV.undef, PV.undef, PV.undef, PV.undef, PV.undef, PV.undef, PV.undef, PV.undef, PV.undef, PV.undef, PV.undef, PV.undef, PV.undef, PV.undef, PV.undef, PV.undef, PV.undef, PV.undef, PV.undef, PV.undef, PV.undef, PV.undef, PV.undef, PV.undef, PV.undef, PV.undef, PV.undef, PV.undef, PV.undef, PV.undef, PV.undef, PV.undef, PV.undef, PV.undef, PV.undef, PV.undef, PV.undef, PV.undef, PV.undef, PV.undef, PV.undef])
 (M.bind (noPan (fa 1 v6)) fun t30_3 =>
 M.bind (noPan (M.pure (strip t29_2))) fun t33_4 =>
 M.bind (noPan (ld none true t30_3)) fun t31_5 =>
 M.bind (noPan (ld none false v3)) fun t32_6 =>
 M.bind (noPan (callV P C t32_6 [(strip t33_4)])) fun t34_7 =>
 M.bind (noPan (bs true none [t34_7])) fun t35_8 =>
 M.bind (noPan (ap true 1 8 t31_5 t35_8)) fun t36_9 =>
 M.bind (noPan (fa 1 v6)) fun t37_10 =>
 M.bind (noPan (st 1 true t37_10 t36_9)) fun _ =>
 M.pure [PV.undef, PV.undef, v2, v3, v4, v5, v6, PV.undef, t29_2, PV.undef, PV.undef, PV.undef, PV.undef, PV.undef, PV.undef, PV.undef, PV.undef, PV.undef, PV.undef, PV.undef, PV.undef, PV.undef, PV.undef, PV.undef, v24, v25, v26, t27_0, t28_1, (strip t29_2), t30_3, (strip t31_5), t32_6, t33_4, t34_7, t35_8, (strip t36_9), t37_10, PV.undef, PV.undef, PV.undef, PV.undef, PV.undef, PV.undef, PV.undef, PV.undef, PV.undef, PV.undef, PV.undef, PV.undef, PV.undef, PV.undef, PV.undef, PV.undef, PV.undef, PV.undef, PV.undef, PV.undef, PV.undef, PV.undef, PV.undef, PV.undef, PV.undef, PV.undef, PV.undef, PV.undef, PV.undef, PV.undef, PV.undef, PV.undef, PV.undef, PV.undef, PV.undef, PV.undef, PV.undef, PV.undef, PV.undef, PV.undef, PV.undef, PV.undef, PV.undef, PV.undef, PV.undef, PV.undef, PV.undef, PV.undef, PV.undef, PV.undef, PV.undef, PV.undef, PV.undef, PV.undef, PV.undef, PV.undef, PV.undef, PV.undef, PV.undef, PV.undef, PV.undef, PV.undef, PV.undef]) <|
 M.bind (noPan (fa 1 v6)) fun t30_30 =>
 M.bind (noPan (M.pure (strip t29_2))) fun t33_31 =>
 M.bind (noPan (ld none true t30_30)) fun t31_32 =>
 M.bind (noPan (ld none false v3)) fun t32_33 =>
 M.bind (noPan (callV P C t32_33 [(strip t33_31)])) fun t34_34 =>
 M.bind (noPan (bs true none [t34_34])) fun t35_35 =>
 M.bind (noPan (ap true 1 8 t31_32 t35_35)) fun t36_36 =>
 M.bind (noPan (fa 1 v6)) fun t37_37 =>
 M.bind (noPan (st 1 true t37_37 t36_36)) fun _ =>
 M.bind (bi .add .none v26 (.int .i64 1)) fun t38_39 =>
 u0u v2 v3 v4 v5 v6 v24 v25 (strip t38_39))
 (M.bind (fa 2 v2) fun t39_40 =>
 M.bind (fa 1 t39_40) fun t40_41 =>
 M.bind (ld none false t40_41) fun t41_42 =>
 M.bind (lnL t41_42) fun t42_43 =>
 u0g v2 v4 v5 v6 t41_42 t42_43 (.int .i64 0)) :=
 (u0n P X _ _ _).trans (by kernel_rfl)
theorem u2l (v2 v4 v5 v6 v41 v42 v43 : PV) : u0g v2 v4 v5 v6 v41 v42 v43 =
 M.bind (bi .lss .none v43 v42) fun t44_0 =>
 condM t44_0
 (M.bind (iaS 3 v41 v43) fun t45_1 =>
 M.bind (ld (some 3) true t45_1) fun t46_2 =>
 M.bind (al [(.int .i64 0), (.bool false), (.int .i64 0)]) fun t10_3 =>
 M.bind (st 3 true t10_3 t46_2) fun _ =>
 chk
 (M.bind (noPan (fa 2 v6)) fun t47_16 =>
 M.bind (noPan (fa 1 t47_16)) fun t48_17 =>
 M.bind (noPan (M.pure (strip v5))) fun t50_18 =>
 M.bind (noPan (ld (some 3) false t10_3)) fun t51_19 =>
 M.bind (noPan (ld none true t48_17)) fun t49_20 =>
 M.bind (noPan (callV P C t50_18 [(strip t51_19)])) fun t52_21 =>
 M.bind (noPan (bs true (some 3) [t52_21])) fun t53_22 =>
 M.bind (noPan (ap true 3 24 t49_20 t53_22)) fun t54_23 =>
 M.bind (noPan (fa 2 v6)) fun t55_24 =>
 M.bind (noPan (fa 1 t55_24)) fun t56_25 =>
 M.bind (noPan (st 1 true t56_25 t54_23)) fun _ =>
 M.pure [PV.undef, PV.undef, v2, PV.undef, v4, v5, v6, PV.undef, PV.undef, PV.undef, t10_3, PV.undef, PV.undef, PV.undef, PV.undef, PV.undef, PV.undef, PV.undef, PV.undef, PV.undef, PV.undef, PV.undef, PV.undef, PV.undef, PV.undef, PV.undef, PV.undef, PV.undef, PV.undef, PV.undef, PV.undef, PV.undef, PV.undef, PV.undef, PV.undef, PV.undef, PV.undef, PV.undef, PV.undef, PV.undef, PV.undef, v41, v42, v43, t44_0, t45_1, (strip t46_2), t47_16, t48_17, (strip t49_20), t50_18, t51_19, t52_21, t53_22, (strip t54_23), t55_24, t56_25, PV.undef, PV.undef, PV.undef, PV.undef, PV.undef, PV.undef, PV.undef, PV.undef, PV.undef, PV.undef, PV.undef, PV.undef, PV.undef, PV.undef, PV.undef, PV.undef, PV.undef, PV.undef, PV.undef, PV.undef, PV.undef, PV.undef, PV.undef, PV.undef, PV.undef, PV.undef, PV.undef, PV.undef, PV.undef, PV.undef, PV.undef, PV.undef, PV.undef, PV.undef, PV.undef, PV.undef, PV.undef, PV.undef, PV.undef, PV.undef, PV.undef, PV.undef, PV.undef, PV.undef])
 (M.bind (noPan (fa 2 v6)) fun t47_5 =>
 M.bind (noPan (fa 1 t47_5)) fun t48_6 =>
 M.bind (noPan (M.pure (strip v5))) fun t50_7 =>
 M.bind (noPan (ld none true t48_6)) fun t49_8 =>
 M.bind (noPan (ld (some 3) false t10_3)) fun t51_9 =>
 M.bind (noPan (callV P C t50_7 [(strip t51_9)])) fun t52_10 =>
 M.bind (noPan (bs true (some 3) [t52_10])) fun t53_11 =>
 M.bind (noPan (ap true 3 24 t49_8 t53_11)) fun t54_12 =>
 M.bind (noPan (fa 2 v6)) fun t55_13 =>
 M.bind (noPan (fa 1 t55_13)) fun t56_14 =>
 M.bind (noPan (st 1 true t56_14 t54_12)) fun _ =>
 M.pure [PV.undef, PV.undef, v2, PV.undef, v4, v5, v6, PV.undef, PV.undef, PV.undef, t10_3, PV.undef, PV.undef, PV.undef, PV.undef, PV.undef, PV.undef, PV.undef, PV.undef, PV.undef, PV.undef, PV.undef, PV.undef, PV.undef, PV.undef, PV.undef, PV.undef, PV.undef, PV.undef, PV.undef, PV.undef, PV.undef, PV.undef, PV.undef, PV.undef, PV.undef, PV.undef, PV.undef, PV.undef, PV.undef, PV.undef, v41, v42, v43, t44_0, t45_1, (strip t46_2), t47_5, t48_6, (strip t49_8), t50_7, t51_9, t52_10, t53_11, (strip t54_12), t55_13, t56_14, PV.undef, PV.undef, PV.undef, PV.undef, PV.undef, PV.undef, PV.undef, PV.undef, PV.undef, PV.undef, PV.undef, PV.undef, PV.undef, PV.undef, PV.undef, PV.undef, PV.undef, PV.undef, PV.undef, PV.undef, PV.undef, PV.undef, PV.undef, PV.undef, PV.undef, PV.undef, PV.undef, PV.undef, PV.undef, PV.undef, PV.undef, PV.undef, PV.undef, PV.undef, PV.undef, PV.undef, PV.undef, PV.undef, PV.undef, PV.undef, PV.undef, PV.undef, PV.undef, PV.undef]) <|
 chk
 (M.bind (noPan (fa 2 v6)) fun t47_27 =>
 M.bind (noPan (fa 1 t47_27)) fun t48_28 =>
 M.bind (noPan (M.pure (strip v5))) fun t50_29 =>
 M.bind (noPan (ld (some 3) false t10_3)) fun t51_30 =>
 M.bind (noPan (callV P C t50_29 [(strip t51_30)])) fun t52_31 =>
 M.bind (noPan (bs true (some 3) [t52_31])) fun t53_32 =>
 M.bind (noPan (ld none true t48_28)) fun t49_33 =>
 M.bind (noPan (ap true 3 24 t49_33 t53_32)) fun t54_34 =>
 M.bind (noPan (fa 2 v6)) fun t55_35 =>
 M.bind (noPan (fa 1 t55_35)) fun t56_36 =>
 M.bind (noPan (st 1 true t56_36 t54_34)) fun _ =>
 M.pure [PV.undef, PV.undef, v2, PV.undef, v4, v5, v6, PV.undef, PV.undef, PV.undef, t10_3, PV.undef, PV.undef, PV.undef, PV.undef, PV.undef, PV.undef, PV.undef, PV.undef, PV.undef, PV.undef, PV.undef, PV.undef, PV.undef, PV.undef, PV.undef, PV.undef, PV.undef, PV.undef, PV.undef, PV.undef, PV.undef, PV.undef, PV.undef, PV.undef, PV.undef, PV.undef, PV.undef, PV.undef, PV.undef, PV.undef, v41, v42, v43, t44_0, t45_1, (strip t46_2), t47_27, t48_28, (strip t49_33), t50_29, t51_30, t52_31, t53_32, (strip t54_34), t55_35, t56_36, PV.undef, PV.undef, PV.undef, PV.undef, PV.undef, PV.undef, PV.undef, PV.undef, PV.undef, PV.undef, PV.undef, PV.undef, PV.undef, PV.undef, PV.undef, PV.undef, PV.undef, PV.undef, PV.undef, PV.undef, PV.undef, PV.undef, PV.undef, PV.undef, PV.undef, PV.undef, PV.undef, PV.undef, PV.undef, PV.undef, PV.undef, PV.undef, PV.undef, PV.undef, PV.undef, PV.undef, PV.undef, PV.undef, PV.undef, PV.undef, PV.undef, PV.undef, PV.undef, PV.undef])
 (M.bind (noPan (fa 2 v6)) fun t47_5 =>
 M.bind (noPan (fa 1 t47_5)) fun t48_6 =>
 M.bind (noPan (M.pure (strip v5))) fun t50_7 =>
 M.bind (noPan (ld none true t48_6)) fun t49_8 =>
 M.bind (noPan (ld (some 3) false t10_3)) fun t51_9 =>
 M.bind (noPan (callV P C t50_7 [(strip t51_9)])) fun t52_10 =>
 M.bind (noPan (bs true (some 3) [t52_10])) fun t53_11 =>
 M.bind (noPan (ap true 3 24 t49_8 t53_11)) fun t54_12 =>
 M.bind (noPan (fa 2 v6)) fun t55_13 =>
 M.bind (noPan (fa 1 t55_13)) fun t56_14 =>
 M.bind (noPan (st 1 true t56_14 t54_12)) fun _ =>
 M.pure [PV.undef, PV.undef, v2, PV.undef, v4, v5, v6, PV.undef, PV.undef, PV.undef, t10_3, PV.undef, PV.undef, PV.undef, PV.undef, PV.undef, PV.undef, PV.undef, PV.undef, PV.undef, PV.undef, PV.undef, PV.undef, PV.undef, PV.undef, PV.undef, PV.undef, PV.undef, PV.undef, PV.undef, PV.undef, PV.undef, PV.undef, PV.undef, PV.undef, PV.undef, PV.undef, PV.undef, PV.undef, PV.undef, PV.undef, v41, v42, v43, t44_0, t45_1, (strip t46_2), t47_5, t48_6, (strip t49_8), t50_7, t51_9, t52_10, t53_11, (strip t54_12), t55_13, t56_14, PV.undef, PV.undef, PV.undef, PV.undef, PV.undef, PV.undef, PV.undef, PV.undef, PV.undef, PV.undef, PV.undef, PV.undef, PV.undef, PV.undef, PV.undef, PV.undef, PV.undef, PV.undef, PV.undef, PV.undef, PV.undef, PV.undef, PV.undef, PV.undef, PV.undef, PV.undef, PV.undef, PV.undef, PV.undef, PV.undef, PV.undef, PV.undef, PV.undef, PV.undef, PV.undef, PV.undef, PV.undef, PV.undef, PV.undef, PV.undef, PV.undef, PV.undef, PV.undef, PV.undef]) <|
 M.bind (noPan (fa 2 v6)) fun t47_38 =>
 M.bind (noPan (fa 1 t47_38)) fun t48_39 =>
 M.bind (noPan (M.pure (strip v5))) fun t50_40 =>
 M.bind (noPan (ld none true t48_39)) fun t49_41 =>
 M.bind (noPan (ld (some 3) false t10_3)) fun t51_42 =>
 M.bind (noPan (callV P C t50_40 [(strip t51_42)])) fun t52_43 =>
 M.bind (noPan (bs true (some 3) [t52_43])) fun t53_44 =>
 M.bind (noPan (ap true 3 24 t49_41 t53_44)) fun t54_45 =>
 M.bind (noPan (fa 2 v6)) fun t55_46 =>
 M.bind (noPan (fa 1 t55_46)) fun t56_47 =>
 M.bind (noPan (st 1 true t56_47 t54_45)) fun _ =>
 M.bind (bi .add .none v43 (.int .i64 1)) fun t57_49 =>
 u0g v2 v4 v5 v6 v41 v42 (strip t57_49))
 (M.bind (fa 2 v2) fun t58_50 =>
 M.bind (fa 2 t58_50) fun t59_51 =>
 M.bind (ld none false t59_51) fun t60_52 =>
 M.bind (lnL t60_52) fun t61_53 =>
 u0c v2 v4 v5 v6 t60_52 t61_53 (.int .i64 0)) :=
 (u0n P X _ _ _).trans (by kernel_rfl)
theorem u2i (v2 v4 v5 v6 v60 v61 v62 : PV) : u0c v2 v4 v5 v6 v60 v61 v62 =
 M.bind (bi .lss .none v62 v61) fun t63_0 =>
 condM t63_0
 (M.bind (iaS 3 v60 v62) fun t64_1 =>
 M.bind (ld (some 3) true t64_1) fun t65_2 =>
 M.bind (al [(.int .i64 0), (.bool false), (.int .i64 0)]) fun t12_3 =>
 M.bind (st 3 true t12_3 t65_2) fun _ =>
 chk
 (M.bind (noPan (fa 2 v6)) fun t66_16 =>
 M.bind (noPan (fa 2 t66_16)) fun t67_17 =>
 M.bind (noPan (M.pure (strip v5))) fun t69_18 =>
 M.bind (noPan (ld (some 3) false t12_3)) fun t70_19 =>
 M.bind (noPan (ld none true t67_17)) fun t68_20 =>
 M.bind (noPan (callV P C t69_18 [(strip t70_19)])) fun t71_21 =>
 M.bind (noPan (bs true (some 3) [t71_21])) fun t72_22 =>
 M.bind (noPan (ap true 3 24 t68_20 t72_22)) fun t73_23 =>
 M.bind (noPan (fa 2 v6)) fun t74_24 =>
 M.bind (noPan (fa 2 t74_24)) fun t75_25 =>
 M.bind (noPan (st 1 true t75_25 t73_23)) fun _ =>
 M.pure [PV.undef, PV.undef, v2, PV.undef, v4, v5, v6, PV.undef, PV.undef, PV.undef, PV.undef, PV.undef, t12_3, PV.undef, PV.undef, PV.undef, PV.undef, PV.undef, PV.undef, PV.undef, PV.undef, PV.undef, PV.undef, PV.undef, PV.undef, PV.undef, PV.undef, PV.undef, PV.undef, PV.undef, PV.undef, PV.undef, PV.undef, PV.undef, PV.undef, PV.undef, PV.undef, PV.undef, PV.undef, PV.undef, PV.undef, PV.undef, PV.undef, PV.undef, PV.undef, PV.undef, PV.undef, PV.undef, PV.undef, PV.undef, PV.undef, PV.undef, PV.undef, PV.undef, PV.undef, PV.undef, PV.undef, PV.undef, PV.undef, PV.undef, v60, v61, v62, t63_0, t64_1, (strip t65_2), t66_16, t67_17, (strip t68_20), t69_18, t70_19, t71_21, t72_22, (strip t73_23), t74_24, t75_25, PV.undef, PV.undef, PV.undef, PV.undef, PV.undef, PV.undef, PV.undef, PV.undef, PV.undef, PV.undef, PV.undef, PV.undef, PV.undef, PV.undef, PV.undef, PV.undef, PV.undef, PV.undef, PV.undef, PV.undef, PV.undef, PV.undef, PV.undef, PV.undef, PV.undef])
 (M.bind (noPan (fa 2 v6)) fun t66_5 =>
 M.bind (noPan (fa 2 t66_5)) fun t67_6 =>
 M.bind (noPan (M.pure (strip v5))) fun t69_7 =>
 M.bind (noPan (ld none true t67_6)) fun t68_8 =>
 M.bind (noPan (ld (some 3) false t12_3)) fun t70_9 =>
 M.bind (noPan (callV P C t69_7 [(strip t70_9)])) fun t71_10 =>
 M.bind (noPan (bs true (some 3) [t71_10])) fun t72_11 =>
 M.bind (noPan (ap true 3 24 t68_8 t72_11)) fun t73_12 =>
 M.bind (noPan (fa 2 v6)) fun t74_13 =>
 M.bind (noPan (fa 2 t74_13)) fun t75_14 =>
 M.bind (noPan (st 1 true t75_14 t73_12)) fun _ =>
 M.pure [PV.undef, PV.undef, v2, PV.undef, v4, v5, v6, PV.undef, PV.undef, PV.undef, PV.undef, PV.undef, t12_3, PV.undef, PV.undef, PV.undef, PV.undef, PV.undef, PV.undef, PV.undef, PV.undef, PV.undef, PV.undef, PV.undef, PV.undef, PV.undef, PV.undef, PV.undef, PV.undef, PV.undef, PV.undef, PV.undef, PV.undef, PV.undef, PV.undef, PV.undef, PV.undef, PV.undef, PV.undef, PV.undef, PV.undef, PV.undef, PV.undef, PV.undef, PV.undef, PV.undef, PV.undef, PV.undef, PV.undef, PV.undef, PV.undef, PV.undef, PV.undef, PV.undef, PV.undef, PV.undef, PV.undef, PV.undef, PV.undef, PV.undef, v60, v61, v62, t63_0, t64_1, (strip t65_2), t66_5, t67_6, (strip t68_8), t69_7, t70_9, t71_10, t72_11, (strip t73_12), t74_13, t75_14, PV.undef, PV.undef, PV.undef, PV.undef, PV.undef, PV.undef, PV.undef, PV.undef, PV.undef, PV.undef, PV.undef, PV.undef, PV.undef, PV.undef, PV.undef, PV.undef, PV.undef, PV.undef, PV.undef, PV.undef, PV.undef, PV.undef, PV.undef, PV.undef, PV.undef]) <|
 chk
 (M.bind (noPan (fa 2 v6)) fun t66_27 =>
 M.bind (noPan (fa 2 t66_27)) fun t67_28 =>
 M.bind (noPan (M.pure (strip v5))) fun t69_29 =>
 M.bind (noPan (ld (some 3) false t12_3)) fun t70_30 =>
 M.bind (noPan (callV P C t69_29 [(strip t70_30)])) fun t71_31 =>
 M.bind (noPan (bs true (some 3) [t71_31])) fun t72_32 =>
 M.bind (noPan (ld none true t67_28)) fun t68_33 =>
 M.bind (noPan (ap true 3 24 t68_33 t72_32)) fun t73_34 =>
 M.bind (noPan (fa 2 v6)) fun t74_35 =>
 M.bind (noPan (fa 2 t74_35)) fun t75_36 =>
 M.bind (noPan (st 1 true t75_36 t73_34)) fun _ =>
 M.pure [PV.undef, PV.undef, v2, PV.undef, v4, v5, v6, PV.undef, PV.undef, PV.undef, PV.undef, PV.undef, t12_3, PV.undef, PV.undef, PV.undef, PV.undef, PV.undef, PV.undef, PV.undef, PV.undef, PV.undef, PV.undef, PV.undef, PV.undef, PV.undef, PV.undef, PV.undef, PV.undef, PV.undef, PV.undef, PV.undef, PV.undef, PV.undef, PV.undef, PV.undef, PV.undef, PV.undef, PV.undef, PV.undef, PV.undef, PV.undef, PV.undef, PV.undef, PV.undef, PV.undef, PV.undef, PV.undef, PV.undef, PV.undef, PV.undef, PV.undef, PV.undef, PV.undef, PV.undef, PV.undef, PV.undef, PV.undef, PV.undef, PV.undef, v60, v61, v62, t63_0, t64_1, (strip t65_2), t66_27, t67_28, (strip t68_33), t69_29, t70_30, t71_31, t72_32, (strip t73_34), t74_35, t75_36, PV.undef, PV.undef, PV.undef, PV.undef, PV.undef, PV.undef, PV.undef, PV.undef, PV.undef, PV.undef, PV.undef, PV.undef, PV.undef, PV.undef, PV.undef, PV.undef, PV.undef, PV.undef, PV.undef, PV.undef, PV.undef, PV.undef, PV.undef, PV.undef, PV.undef])
 (M.bind (noPan (fa 2 v6)) fun t66_5 =>
 M.bind (noPan (fa 2 t66_5)) fun t67_6 =>
 M.bind (noPan (M.pure (strip v5))) fun t69_7 =>
 M.bind (noPan (ld none true t67_6)) fun t68_8 =>
 M.bind (noPan (ld (some 3) false t12_3)) fun t70_9 =>
 M.bind (noPan (callV P C t69_7 [(strip t70_9)])) fun t71_10 =>
 M.bind (noPan (bs true (some 3) [t71_10])) fun t72_11 =>
 M.bind (noPan (ap true 3 24 t68_8 t72_11)) fun t73_12 =>
 M.bind (noPan (fa 2 v6)) fun t74_13 =>
 M.bind (noPan (fa 2 t74_13)) fun t75_14 =>
 M.bind (noPan (st 1 true t75_14 t73_12)) fun _ =>
 M.pure [PV.undef, PV.undef, v2, PV.undef, v4, v5, v6, PV.undef, PV.undef, PV.undef, PV.undef, PV.undef, t12_3, PV.undef, PV.undef, PV.undef, PV.undef, PV.undef, PV.undef, PV.undef, PV.undef, PV.undef, PV.undef, PV.undef, PV.undef, PV.undef, PV.undef, PV.undef, PV.undef, PV.undef, PV.undef, PV.undef, PV.undef, PV.undef, PV.undef, PV.undef, PV.undef, PV.undef, PV.undef, PV.undef, PV.undef, PV.undef, PV.undef, PV.undef, PV.undef, PV.undef, PV.undef, PV.undef, PV.undef, PV.undef, PV.undef, PV.undef, PV.undef, PV.undef, PV.undef, PV.undef, PV.undef, PV.undef, PV.undef, PV.undef, v60, v61, v62, t63_0, t64_1, (strip t65_2), t66_5, t67_6, (strip t68_8), t69_7, t70_9, t71_10, t72_11, (strip t73_12), t74_13, t75_14, PV.undef, PV.undef, PV.undef, PV.undef, PV.undef, PV.undef, PV.undef, PV.undef, PV.undef, PV.undef, PV.undef, PV.undef, PV.undef, PV.undef, PV.undef, PV.undef, PV.undef, PV.undef, PV.undef, PV.undef, PV.undef, PV.undef, PV.undef, PV.undef, PV.undef]) <|
 M.bind (noPan (fa 2 v6)) fun t66_38 =>
 M.bind (noPan (fa 2 t66_38)) fun t67_39 =>
 M.bind (noPan (M.pure (strip v5))) fun t69_40 =>
 M.bind (noPan (ld none true t67_39)) fun t68_41 =>
 M.bind (noPan (ld (some 3) false t12_3)) fun t70_42 =>
 M.bind (noPan (callV P C t69_40 [(strip t70_42)])) fun t71_43 =>
 M.bind (noPan (bs true (some 3) [t71_43])) fun t72_44 =>
 M.bind (noPan (ap true 3 24 t68_41 t72_44)) fun t73_45 =>
 M.bind (noPan (fa 2 v6)) fun t74_46 =>
 M.bind (noPan (fa 2 t74_46)) fun t75_47 =>
 M.bind (noPan (st 1 true t75_47 t73_45)) fun _ =>
 M.bind (bi .add .none v62 (.int .i64 1)) fun t76_49 =>
 u0c v2 v4 v5 v6 v60 v61 (strip t76_49))
 (M.bind (fa 2 v2) fun t77_50 =>
 M.bind (fa 3 t77_50) fun t78_51 =>
 M.bind (ld none false t78_51) fun t79_52 =>
 M.bind (lnL t79_52) fun t80_53 =>
 u0b v4 v5 v6 t79_52 t80_53 (.int .i64 0)) :=
 (u0n P X _ _ _).trans (by kernel_rfl)
theorem u2d (v4 v5 v6 v79 v80 v81 : PV) : u0b v4 v5 v6 v79 v80 v81 =
 M.bind (bi .lss .none v81 v80) fun t82_0 =>
 condM t82_0
 (M.bind (iaS 4 v79 v81) fun t83_1 =>
 M.bind (ld (some 4) true t83_1) fun t84_2 =>
 M.bind (al [(.int .i64 0), (.bool false), (.int .i64 0), (.bool false)]) fun t14_3 =>
 M.bind (st 4 true t14_3 t84_2) fun _ =>
 chk
 (M.bind (noPan (fa 2 v6)) fun t85_20 =>
 M.bind (noPan (fa 3 t85_20)) fun t86_21 =>
 M.bind (noPan (M.pure (strip v5))) fun t88_22 =>
 M.bind (noPan (fa 0 t14_3)) fun t89_23 =>
 M.bind (noPan (fa 3 t14_3)) fun t92_24 =>
 M.bind (noPan (ld none true t86_21)) fun t87_25 =>
 M.bind (noPan (ld (some 3) false t89_23)) fun t90_26 =>
 M.bind (noPan (ld none false t92_24)) fun t93_27 =>
 M.bind (noPan (callV P C t88_22 [(strip t90_26)])) fun t91_28 =>
 M.bind (noPan (bd [(.int .i64 0), (.bool false), (.int .i64 0), (.bool false)] [(0, 3, t91_28), (3, 1, t93_27)])) fun t94_29 =>
 M.bind (noPan (bs true (some 4) [t94_29])) fun t95_30 =>
 M.bind (noPan (ap true 4 32 t87_25 t95_30)) fun t96_31 =>
 M.bind (noPan (fa 2 v6)) fun t97_32 =>
 M.bind (noPan (fa 3 t97_32)) fun t98_33 =>
 M.bind (noPan (st 1 true t98_33 t96_31)) fun _ =>
 M.pure [PV.undef, PV.undef, PV.undef, PV.undef, v4, v5, v6, PV.undef, PV.undef, PV.undef, PV.undef, PV.undef, PV.undef, PV.undef, t14_3, PV.undef, PV.undef, PV.undef, PV.undef, PV.undef, PV.undef, PV.undef, PV.undef, PV.undef, PV.undef, PV.undef, PV.undef, PV.undef, PV.undef, PV.undef, PV.undef, PV.undef, PV.undef, PV.undef, PV.undef, PV.undef, PV.undef, PV.undef, PV.undef, PV.undef, PV.undef, PV.undef, PV.undef, PV.undef, PV.undef, PV.undef, PV.undef, PV.undef, PV.undef, PV.undef, PV.undef, PV.undef, PV.undef, PV.undef, PV.undef, PV.undef, PV.undef, PV.undef, PV.undef, PV.undef, PV.undef, PV.undef, PV.undef, PV.undef, PV.undef, PV.undef, PV.undef, PV.undef, PV.undef, PV.undef, PV.undef, PV.undef, PV.undef, PV.undef, PV.undef, PV.undef, PV.undef, PV.undef, PV.undef, v79, v80, v81, t82_0, t83_1, (strip t84_2), t85_20, t86_21, (strip t87_25), t88_22, t89_23, t90_26, t91_28, t92_24, t93_27, t94_29, t95_30, (strip t96_31), t97_32, t98_33, PV.undef, PV.undef])
 (M.bind (noPan (fa 2 v6)) fun t85_5 =>
 M.bind (noPan (fa 3 t85_5)) fun t86_6 =>
 M.bind (noPan (M.pure (strip v5))) fun t88_7 =>
 M.bind (noPan (fa 0 t14_3)) fun t89_8 =>
 M.bind (noPan (fa 3 t14_3)) fun t92_9 =>
 M.bind (noPan (ld none true t86_6)) fun t87_10 =>
 M.bind (noPan (ld (some 3) false t89_8)) fun t90_11 =>
 M.bind (noPan (callV P C t88_7 [(strip t90_11)])) fun t91_12 =>
 M.bind (noPan (ld none false t92_9)) fun t93_13 =>
 M.bind (noPan (bd [(.int .i64 0), (.bool false), (.int .i64 0), (.bool false)] [(0, 3, t91_12), (3, 1, t93_13)])) fun t94_14 =>
 M.bind (noPan (bs true (some 4) [t94_14])) fun t95_15 =>
 M.bind (noPan (ap true 4 32 t87_10 t95_15)) fun t96_16 =>
 M.bind (noPan (fa 2 v6)) fun t97_17 =>
 M.bind (noPan (fa 3 t97_17)) fun t98_18 =>
 M.bind (noPan (st 1 true t98_18 t96_16)) fun _ =>
 M.pure [PV.undef, PV.undef, PV.undef, PV.undef, v4, v5, v6, PV.undef, PV.undef, PV.undef, PV.undef, PV.undef, PV.undef, PV.undef, t14_3, PV.undef, PV.undef, PV.undef, PV.undef, PV.undef, PV.undef, PV.undef, PV.undef, PV.undef, PV.undef, PV.undef, PV.undef, PV.undef, PV.undef, PV.undef, PV.undef, PV.undef, PV.undef, PV.undef, PV.undef, PV.undef, PV.undef, PV.undef, PV.undef, PV.undef, PV.undef, PV.undef, PV.undef, PV.undef, PV.undef, PV.undef, PV.undef, PV.undef, PV.undef, PV.undef, PV.undef, PV.undef, PV.undef, PV.undef, PV.undef, PV.undef, PV.undef, PV.undef, PV.undef, PV.undef, PV.undef, PV.undef, PV.undef, PV.undef, PV.undef, PV.undef, PV.undef, PV.undef, PV.undef, PV.undef, PV.undef, PV.undef, PV.undef, PV.undef, PV.undef, PV.undef, PV.undef, PV.undef, PV.undef, v79, v80, v81, t82_0, t83_1, (strip t84_2), t85_5, t86_6, (strip t87_10), t88_7, t89_8, t90_11, t91_12, t92_9, t93_13, t94_14, t95_15, (strip t96_16), t97_17, t98_18, PV.undef, PV.undef]) <|
 chk
 (M.bind (noPan (fa 2 v6)) fun t85_35 =>
 M.bind (noPan (fa 3 t85_35)) fun t86_36 =>
 M.bind (noPan (M.pure (strip v5))) fun t88_37 =>
 M.bind (noPan (fa 0 t14_3)) fun t89_38 =>
 M.bind (noPan (fa 3 t14_3)) fun t92_39 =>
 M.bind (noPan (ld (some 3) false t89_38)) fun t90_40 =>
 M.bind (noPan (ld none true t86_36)) fun t87_41 =>
 M.bind (noPan (callV P C t88_37 [(strip t90_40)])) fun t91_42 =>
 M.bind (noPan (ld none false t92_39)) fun t93_43 =>
 M.bind (noPan (bd [(.int .i64 0), (.bool false), (.int .i64 0), (.bool false)] [(0, 3, t91_42), (3, 1, t93_43)])) fun t94_44 =>
 M.bind (noPan (bs true (some 4) [t94_44])) fun t95_45 =>
 M.bind (noPan (ap true 4 32 t87_41 t95_45)) fun t96_46 =>
 M.bind (noPan (fa 2 v6)) fun t97_47 =>
 M.bind (noPan (fa 3 t97_47)) fun t98_48 =>
 M.bind (noPan (st 1 true t98_48 t96_46)) fun _ =>
 M.pure [PV.undef, PV.undef, PV.undef, PV.undef, v4, v5, v6, PV.undef, PV.undef, PV.undef, PV.undef, PV.undef, PV.undef, PV.undef, t14_3, PV.undef, PV.undef, PV.undef, PV.undef, PV.undef, PV.undef, PV.undef, PV.undef, PV.undef, PV.undef, PV.undef, PV.undef, PV.undef, PV.undef, PV.undef, PV.undef, PV.undef, PV.undef, PV.undef, PV.undef, PV.undef, PV.undef, PV.undef, PV.undef, PV.undef, PV.undef, PV.undef, PV.undef, PV.undef, PV.undef, PV.undef, PV.undef, PV.undef, PV.undef, PV.undef, PV.undef, PV.undef, PV.undef, PV.undef, PV.undef, PV.undef, PV.undef, PV.undef, PV.undef, PV.undef, PV.undef, PV.undef, PV.undef, PV.undef, PV.undef, PV.undef, PV.undef, PV.undef, PV.undef, PV.undef, PV.undef, PV.undef, PV.undef, PV.undef, PV.undef, PV.undef, PV.undef, PV.undef, PV.undef, v79, v80, v81, t82_0, t83_1, (strip t84_2), t85_35, t86_36, (strip t87_41), t88_37, t89_38, t90_40, t91_42, t92_39, t93_43, t94_44, t95_45, (strip t96_46), t97_47, t98_48, PV.undef, PV.undef])
 (M.bind (noPan (fa 2 v6)) fun t85_5 =>
 M.bind (noPan (fa 3 t85_5)) fun t86_6 =>
 M.bind (noPan (M.pure (strip v5))) fun t88_7 =>
 M.bind (noPan (fa 0 t14_3)) fun t89_8 =>
 M.bind (noPan (fa 3 t14_3)) fun t92_9 =>
 M.bind (noPan (ld none true t86_6)) fun t87_10 =>
 M.bind (noPan (ld (some 3) false t89_8)) fun t90_11 =>
 M.bind (noPan (callV P C t88_7 [(strip t90_11)])) fun t91_12 =>
 M.bind (noPan (ld none false t92_9)) fun t93_13 =>
 M.bind (noPan (bd [(.int .i64 0), (.bool false), (.int .i64 0), (.bool false)] [(0, 3, t91_12), (3, 1, t93_13)])) fun t94_14 =>
 M.bind (noPan (bs true (some 4) [t94_14])) fun t95_15 =>
 M.bind (noPan (ap true 4 32 t87_10 t95_15)) fun t96_16 =>
 M.bind (noPan (fa 2 v6)) fun t97_17 =>
 M.bind (noPan (fa 3 t97_17)) fun t98_18 =>
 M.bind (noPan (st 1 true t98_18 t96_16)) fun _ =>
 M.pure [PV.undef, PV.undef, PV.undef, PV.undef, v4, v5, v6, PV.undef, PV.undef, PV.undef, PV.undef, PV.undef, PV.undef, PV.undef, t14_3, PV.undef, PV.undef, PV.undef, PV.undef, PV.undef, PV.undef, PV.undef, PV.undef, PV.undef, PV.undef, PV.undef, PV.undef, PV.undef, PV.undef, PV.undef, PV.undef, PV.undef, PV.undef, PV.undef, PV.undef, PV.undef, PV.undef, PV.undef, PV.undef, PV.undef, PV.undef, PV.undef, PV.undef, PV.undef, PV.undef, PV.undef, PV.undef, PV.undef, PV.undef, PV.undef, PV.undef, PV.undef, PV.undef, PV.undef, PV.undef, PV.undef, PV.undef, PV.undef, PV.undef, PV.undef, PV.undef, PV.undef, PV.undef, PV.undef, PV.undef, PV.undef, PV.undef, PV.undef, PV.undef, PV.undef, PV.undef, PV.undef, PV.undef, PV.undef, PV.undef, PV.undef, PV.undef, PV.undef, PV.undef, v79, v80, v81, t82_0, t83_1, (strip t84_2), t85_5, t86_6, (strip t87_10), t88_7, t89_8, t90_11, t91_12, t92_9, t93_13, t94_14, t95_15, (strip t96_16), t97_17, t98_18, PV.undef, PV.undef]) <|
 chk
 (M.bind (noPan (fa 2 v6)) fun t85_50 =>
 M.bind (noPan (fa 3 t85_50)) fun t86_51 =>
 M.bind (noPan (M.pure (strip v5))) fun t88_52 =>
 M.bind (noPan (fa 0 t14_3)) fun t89_53 =>
 M.bind (noPan (fa 3 t14_3)) fun t92_54 =>
 M.bind (noPan (ld (some 3) false t89_53)) fun t90_55 =>
 M.bind (noPan (ld none true t86_51)) fun t87_56 =>
 M.bind (noPan (ld none false t92_54)) fun t93_57 =>
 M.bind (noPan (callV P C t88_52 [(strip t90_55)])) fun t91_58 =>
 M.bind (noPan (bd [(.int .i64 0), (.bool false), (.int .i64 0), (.bool false)] [(0, 3, t91_58), (3, 1, t93_57)])) fun t94_59 =>
 M.bind (noPan (bs true (some 4) [t94_59])) fun t95_60 =>
 M.bind (noPan (ap true 4 32 t87_56 t95_60)) fun t96_61 =>
 M.bind (noPan (fa 2 v6)) fun t97_62 =>
 M.bind (noPan (fa 3 t97_62)) fun t98_63 =>
 M.bind (noPan (st 1 true t98_63 t96_61)) fun _ =>
 M.pure [PV.undef, PV.undef, PV.undef, PV.undef, v4, v5, v6, PV.undef, PV.undef, PV.undef, PV.undef, PV.undef, PV.undef, PV.undef, t14_3, PV.undef, PV.undef, PV.undef, PV.undef, PV.undef, PV.undef, PV.undef, PV.undef, PV.undef, PV.undef, PV.undef, PV.undef, PV.undef, PV.undef, PV.undef, PV.undef, PV.undef, PV.undef, PV.undef, PV.undef, PV.undef, PV.undef, PV.undef, PV.undef, PV.undef, PV.undef, PV.undef, PV.undef, PV.undef, PV.undef, PV.undef, PV.undef, PV.undef, PV.undef, PV.undef, PV.undef, PV.undef, PV.undef, PV.undef, PV.undef, PV.undef, PV.undef, PV.undef, PV.undef, PV.undef, PV.undef, PV.undef, PV.undef, PV.undef, PV.undef, PV.undef, PV.undef, PV.undef, PV.undef, PV.undef, PV.undef, PV.undef, PV.undef, PV.undef, PV.undef, PV.undef, PV.undef, PV.undef, PV.undef, v79, v80, v81, t82_0, t83_1, (strip t84_2), t85_50, t86_51, (strip t87_56), t88_52, t89_53, t90_55, t91_58, t92_54, t93_57, t94_59, t95_60, (strip t96_61), t97_62, t98_63, PV.undef, PV.undef])
 (M.bind (noPan (fa 2 v6)) fun t85_5 =>
 M.bind (noPan (fa 3 t85_5)) fun t86_6 =>
 M.bind (noPan (M.pure (strip v5))) fun t88_7 =>
 M.bind (noPan (fa 0 t14_3)) fun t89_8 =>
 M.bind (noPan (fa 3 t14_3)) fun t92_9 =>
 M.bind (noPan (ld none true t86_6)) fun t87_10 =>
 M.bind (noPan (ld (some 3) false t89_8)) fun t90_11 =>
 M.bind (noPan (callV P C t88_7 [(strip t90_11)])) fun t91_12 =>
 M.bind (noPan (ld none false t92_9)) fun t93_13 =>
 M.bind (noPan (bd [(.int .i64 0), (.bool false), (.int .i64 0), (.bool false)] [(0, 3, t91_12), (3, 1, t93_13)])) fun t94_14 =>
 M.bind (noPan (bs true (some 4) [t94_14])) fun t95_15 =>
 M.bind (noPan (ap true 4 32 t87_10 t95_15)) fun t96_16 =>
 M.bind (noPan (fa 2 v6)) fun t97_17 =>
 M.bind (noPan (fa 3 t97_17)) fun t98_18 =>
 M.bind (noPan (st 1 true t98_18 t96_16)) fun _ =>
 M.pure [PV.undef, PV.undef, PV.undef, PV.undef, v4, v5, v6, PV.undef, PV.undef, PV.undef, PV.undef, PV.undef, PV.undef, PV.undef, t14_3, PV.undef, PV.undef, PV.undef, PV.undef, PV.undef, PV.undef, PV.undef, PV.undef, PV.undef, PV.undef, PV.undef, PV.undef, PV.undef, PV.undef, PV.undef, PV.undef, PV.undef, PV.undef, PV.undef, PV.undef, PV.undef, PV.undef, PV.undef, PV.undef, PV.undef, PV.undef, PV.undef, PV.undef, PV.undef, PV.undef, PV.undef, PV.undef, PV.undef, PV.undef, PV.undef, PV.undef, PV.undef, PV.undef, PV.undef, PV.undef, PV.undef, PV.undef, PV.undef, PV.undef, PV.undef, PV.undef, PV.undef, PV.undef, PV.undef, PV.undef, PV.undef, PV.undef, PV.undef, PV.undef, PV.undef, PV.undef, PV.undef, PV.undef, PV.undef, PV.undef, PV.undef, PV.undef, PV.undef, PV.undef, v79, v80, v81, t82_0, t83_1, (strip t84_2), t85_5, t86_6, (strip t87_10), t88_7, t89_8, t90_11, t91_12, t92_9, t93_13, t94_14, t95_15, (strip t96_16), t97_17, t98_18, PV.undef, PV.undef]) <|
 chk
 (M.bind (noPan (fa 2 v6)) fun t85_65 =>
 M.bind (noPan (fa 3 t85_65)) fun t86_66 =>
 M.bind (noPan (M.pure (strip v5))) fun t88_67 =>
 M.bind (noPan (fa 0 t14_3)) fun t89_68 =>
 M.bind (noPan (fa 3 t14_3)) fun t92_69 =>
 M.bind (noPan (ld (some 3) false t89_68)) fun t90_70 =>
 M.bind (noPan (callV P C t88_67 [(strip t90_70)])) fun t91_71 =>
 M.bind (noPan (ld none true t86_66)) fun t87_72 =>
 M.bind (noPan (ld none false t92_69)) fun t93_73 =>
 M.bind (noPan (bd [(.int .i64 0), (.bool false), (.int .i64 0), (.bool false)] [(0, 3, t91_71), (3, 1, t93_73)])) fun t94_74 =>
 M.bind (noPan (bs true (some 4) [t94_74])) fun t95_75 =>
 M.bind (noPan (ap true 4 32 t87_72 t95_75)) fun t96_76 =>
 M.bind (noPan (fa 2 v6)) fun t97_77 =>
 M.bind (noPan (fa 3 t97_77)) fun t98_78 =>
 M.bind (noPan (st 1 true t98_78 t96_76)) fun _ =>
 M.pure [PV.undef, PV.undef, PV.undef, PV.undef, v4, v5, v6, PV.undef, PV.undef, PV.undef, PV.undef, PV.undef, PV.undef, PV.undef, t14_3, PV.undef, PV.undef, PV.undef, PV.undef, PV.undef, PV.undef, PV.undef, PV.undef, PV.undef, PV.undef, PV.undef, PV.undef, PV.undef, PV.undef, PV.undef, PV.undef, PV.undef, PV.undef, PV.undef, PV.undef, PV.undef, PV.undef, PV.undef, PV.undef, PV.undef, PV.undef, PV.undef, PV.undef, PV.undef, PV.undef, PV.undef, PV.undef, PV.undef, PV.undef, PV.undef, PV.undef, PV.undef, PV.undef, PV.undef, PV.undef, PV.undef, PV.undef, PV.undef, PV.undef, PV.undef, PV.undef, PV.undef, PV.undef, PV.undef, PV.undef, PV.undef, PV.undef, PV.undef, PV.undef, PV.undef, PV.undef, PV.undef, PV.undef, PV.undef, PV.undef, PV.undef, PV.undef, PV.undef, PV.undef, v79, v80, v81, t82_0, t83_1, (strip t84_2), t85_65, t86_66, (strip t87_72), t88_67, t89_68, t90_70, t91_71, t92_69, t93_73, t94_74, t95_75, (strip t96_76), t97_77, t98_78, PV.undef, PV.undef])
 (M.bind (noPan (fa 2 v6)) fun t85_5 =>
 M.bind (noPan (fa 3 t85_5)) fun t86_6 =>
 M.bind (noPan (M.pure (strip v5))) fun t88_7 =>
 M.bind (noPan (fa 0 t14_3)) fun t89_8 =>
 M.bind (noPan (fa 3 t14_3)) fun t92_9 =>
 M.bind (noPan (ld none true t86_6)) fun t87_10 =>
 M.bind (noPan (ld (some 3) false t89_8)) fun t90_11 =>
 M.bind (noPan (callV P C t88_7 [(strip t90_11)])) fun t91_12 =>
 M.bind (noPan (ld none false t92_9)) fun t93_13 =>
 M.bind (noPan (bd [(.int .i64 0), (.bool false), (.int .i64 0), (.bool false)] [(0, 3, t91_12), (3, 1, t93_13)])) fun t94_14 =>
 M.bind (noPan (bs true (some 4) [t94_14])) fun t95_15 =>
 M.bind (noPan (ap true 4 32 t87_10 t95_15)) fun t96_16 =>
 M.bind (noPan (fa 2 v6)) fun t97_17 =>
 M.bind (noPan (fa 3 t97_17)) fun t98_18 =>
 M.bind (noPan (st 1 true t98_18 t96_16)) fun _ =>
 M.pure [PV.undef, PV.undef, PV.undef, PV.undef, v4, v5, v6, PV.undef, PV.undef, PV.undef, PV.undef, PV.undef, PV.undef, PV.undef, t14_3, PV.undef, PV.undef, PV.undef, PV.undef, PV.undef, PV.undef, PV.undef, PV.undef, PV.undef, PV.undef, PV.undef, PV.undef, PV.undef, PV.undef, PV.undef, PV.undef, PV.undef, PV.undef, PV.undef, PV.undef, PV.undef, PV.undef, PV.undef, PV.undef, PV.undef, PV.undef, PV.undef, PV.undef, PV.undef, PV.undef, PV.undef, PV.undef, PV.undef, PV.undef, PV.undef, PV.undef, PV.undef, PV.undef, PV.undef, PV.undef, PV.undef, PV.undef, PV.undef, PV.undef, PV.undef, PV.undef, PV.undef, PV.undef, PV.undef, PV.undef, PV.undef, PV.undef, PV.undef, PV.undef, PV.undef, PV.undef, PV.undef, PV.undef, PV.undef, PV.undef, PV.undef, PV.undef, PV.undef, PV.undef, v79, v80, v81, t82_0, t83_1, (strip t84_2), t85_5, t86_6, (strip t87_10), t88_7, t89_8, t90_11, t91_12, t92_9, t93_13, t94_14, t95_15, (strip t96_16), t97_17, t98_18, PV.undef, PV.undef]) <|
 chk
 (M.bind (noPan (fa 2 v6)) fun t85_80 =>
 M.bind (noPan (fa 3 t85_80)) fun t86_81 =>
 M.bind (noPan (M.pure (strip v5))) fun t88_82 =>
 M.bind (noPan (fa 0 t14_3)) fun t89_83 =>
 M.bind (noPan (fa 3 t14_3)) fun t92_84 =>
 M.bind (noPan (ld (some 3) false t89_83)) fun t90_85 =>
 M.bind (noPan (callV P C t88_82 [(strip t90_85)])) fun t91_86 =>
 M.bind (noPan (ld none false t92_84)) fun t93_87 =>
 M.bind (noPan (bd [(.int .i64 0), (.bool false), (.int .i64 0), (.bool false)] [(0, 3, t91_86), (3, 1, t93_87)])) fun t94_88 =>
 M.bind (noPan (bs true (some 4) [t94_88])) fun t95_89 =>
 M.bind (noPan (ld none true t86_81)) fun t87_90 =>
 M.bind (noPan (ap true 4 32 t87_90 t95_89)) fun t96_91 =>
 M.bind (noPan (fa 2 v6)) fun t97_92 =>
 M.bind (noPan (fa 3 t97_92)) fun t98_93 =>
 M.bind (noPan (st 1 true t98_93 t96_91)) fun _ =>
 M.pure [PV.undef, PV.undef, PV.undef, PV.undef, v4, v5, v6, PV.undef, PV.undef, PV.undef, PV.undef, PV.undef, PV.undef, PV.undef, t14_3, PV.undef, PV.undef, PV.undef, PV.undef, PV.undef, PV.undef, PV.undef, PV.undef, PV.undef, PV.undef, PV.undef, PV.undef, PV.undef, PV.undef, PV.undef, PV.undef, PV.undef, PV.undef, PV.undef, PV.undef, PV.undef, PV.undef, PV.undef, PV.undef, PV.undef, PV.undef, PV.undef, PV.undef, PV.undef, PV.undef, PV.undef, PV.undef, PV.undef, PV.undef, PV.undef, PV.undef, PV.undef, PV.undef, PV.undef, PV.undef, PV.undef, PV.undef, PV.undef, PV.undef, PV.undef, PV.undef, PV.undef, PV.undef, PV.undef, PV.undef, PV.undef, PV.undef, PV.undef, PV.undef, PV.undef, PV.undef, PV.undef, PV.undef, PV.undef, PV.undef, PV.undef, PV.undef, PV.undef, PV.undef, v79, v80, v81, t82_0, t83_1, (strip t84_2), t85_80, t86_81, (strip t87_90), t88_82, t89_83, t90_85, t91_86, t92_84, t93_87, t94_88, t95_89, (strip t96_91), t97_92, t98_93, PV.undef, PV.undef])
 (M.bind (noPan (fa 2 v6)) fun t85_5 =>
 M.bind (noPan (fa 3 t85_5)) fun t86_6 =>
 M.bind (noPan (M.pure (strip v5))) fun t88_7 =>
 M.bind (noPan (fa 0 t14_3)) fun t89_8 =>
 M.bind (noPan (fa 3 t14_3)) fun t92_9 =>
 M.bind (noPan (ld none true t86_6)) fun t87_10 =>
 M.bind (noPan (ld (some 3) false t89_8)) fun t90_11 =>
 M.bind (noPan (callV P C t88_7 [(strip t90_11)])) fun t91_12 =>
 M.bind (noPan (ld none false t92_9)) fun t93_13 =>
 M.bind (noPan (bd [(.int .i64 0), (.bool false), (.int .i64 0), (.bool false)] [(0, 3, t91_12), (3, 1, t93_13)])) fun t94_14 =>
 M.bind (noPan (bs true (some 4) [t94_14])) fun t95_15 =>
 M.bind (noPan (ap true 4 32 t87_10 t95_15)) fun t96_16 =>
 M.bind (noPan (fa 2 v6)) fun t97_17 =>
 M.bind (noPan (fa 3 t97_17)) fun t98_18 =>
 M.bind (noPan (st 1 true t98_18 t96_16)) fun _ =>
 M.pure [PV.undef, PV.undef, PV.undef, PV.undef, v4, v5, v6, PV.undef, PV.undef, PV.undef, PV.undef, PV.undef, PV.undef, PV.undef, t14_3, PV.undef, PV.undef, PV.undef, PV.undef, PV.undef, PV.undef, PV.undef, PV.undef, PV.undef, PV.undef, PV.undef, PV.undef, PV.undef, PV.undef, PV.undef, PV.undef, PV.undef, PV.undef, PV.undef, PV.undef, PV.undef, PV.undef, PV.undef, PV.undef, PV.undef, PV.undef, PV.undef, PV.undef, PV.undef, PV.undef, PV.undef, PV.undef, PV.undef, PV.undef, PV.undef, PV.undef, PV.undef, PV.undef, PV.undef, PV.undef, PV.undef, PV.undef, PV.undef, PV.undef, PV.undef, PV.undef, PV.undef, PV.undef, PV.undef, PV.undef, PV.undef, PV.undef, PV.undef, PV.undef, PV.undef, PV.undef, PV.undef, PV.undef, PV.undef, PV.undef, PV.undef, PV.undef, PV.undef, PV.undef, v79, v80, v81, t82_0, t83_1, (strip t84_2), t85_5, t86_6, (strip t87_10), t88_7, t89_8, t90_11, t91_12, t92_9, t93_13, t94_14, t95_15, (strip t96_16), t97_17, t98_18, PV.undef, PV.undef]) <|
 chk
 (M.bind (noPan (fa 2 v6)) fun t85_95 =>
 M.bind (noPan (fa 3 t85_95)) fun t86_96 =>
 M.bind (noPan (M.pure (strip v5))) fun t88_97 =>
 M.bind (noPan (fa 0 t14_3)) fun t89_98 =>
 M.bind (noPan (fa 3 t14_3)) fun t92_99 =>
 M.bind (noPan (ld (some 3) false t89_98)) fun t90_100 =>
 M.bind (noPan (ld none false t92_99)) fun t93_101 =>
 M.bind (noPan (ld none true t86_96)) fun t87_102 =>
 M.bind (noPan (callV P C t88_97 [(strip t90_100)])) fun t91_103 =>
 M.bind (noPan (bd [(.int .i64 0), (.bool false), (.int .i64 0), (.bool false)] [(0, 3, t91_103), (3, 1, t93_101)])) fun t94_104 =>
 M.bind (noPan (bs true (some 4) [t94_104])) fun t95_105 =>
 M.bind (noPan (ap true 4 32 t87_102 t95_105)) fun t96_106 =>
 M.bind (noPan (fa 2 v6)) fun t97_107 =>
 M.bind (noPan (fa 3 t97_107)) fun t98_108 =>
 M.bind (noPan (st 1 true t98_108 t96_106)) fun _ =>
 M.pure [PV.undef, PV.undef, PV.undef, PV.undef, v4, v5, v6, PV.undef, PV.undef, PV.undef, PV.undef, PV.undef, PV.undef, PV.undef, t14_3, PV.undef, PV.undef, PV.undef, PV.undef, PV.undef, PV.undef, PV.undef, PV.undef, PV.undef, PV.undef, PV.undef, PV.undef, PV.undef, PV.undef, PV.undef, PV.undef, PV.undef, PV.undef, PV.undef, PV.undef, PV.undef, PV.undef, PV.undef, PV.undef, PV.undef, PV.undef, PV.undef, PV.undef, PV.undef, PV.undef, PV.undef, PV.undef, PV.undef, PV.undef, PV.undef, PV.undef, PV.undef, PV.undef, PV.undef, PV.undef, PV.undef, PV.undef, PV.undef, PV.undef, PV.undef, PV.undef, PV.undef, PV.undef, PV.undef, PV.undef, PV.undef, PV.undef, PV.undef, PV.undef, PV.undef, PV.undef, PV.undef, PV.undef, PV.undef, PV.undef, PV.undef, PV.undef, PV.undef, PV.undef, v79, v80, v81, t82_0, t83_1, (strip t84_2), t85_95, t86_96, (strip t87_102), t88_97, t89_98, t90_100, t91_103, t92_99, t93_101, t94_104, t95_105, (strip t96_106), t97_107, t98_108, PV.undef, PV.undef])
 (M.bind (noPan (fa 2 v6)) fun t85_5 =>
 M.bind (noPan (fa 3 t85_5)) fun t86_6 =>
 M.bind (noPan (M.pure (strip v5))) fun t88_7 =>
 M.bind (noPan (fa 0 t14_3)) fun t89_8 =>
 M.bind (noPan (fa 3 t14_3)) fun t92_9 =>
 M.bind (noPan (ld none true t86_6)) fun t87_10 =>
 M.bind (noPan (ld (some 3) false t89_8)) fun t90_11 =>
 M.bind (noPan (callV P C t88_7 [(strip t90_11)])) fun t91_12 =>
 M.bind (noPan (ld none false t92_9)) fun t93_13 =>
 M.bind (noPan (bd [(.int .i64 0), (.bool false), (.int .i64 0), (.bool false)] [(0, 3, t91_12), (3, 1, t93_13)])) fun t94_14 =>
 M.bind (noPan (bs true (some 4) [t94_14])) fun t95_15 =>
 M.bind (noPan (ap true 4 32 t87_10 t95_15)) fun t96_16 =>
 M.bind (noPan (fa 2 v6)) fun t97_17 =>
 M.bind (noPan (fa 3 t97_17)) fun t98_18 =>
 M.bind (noPan (st 1 true t98_18 t96_16)) fun _ =>
 M.pure [PV.undef, PV.undef, PV.undef, PV.undef, v4, v5, v6, PV.undef, PV.undef, PV.undef, PV.undef, PV.undef, PV.undef, PV.undef, t14_3, PV.undef, PV.undef, PV.undef, PV.undef, PV.undef, PV.undef, PV.undef, PV.undef, PV.undef, PV.undef, PV.undef, PV.undef, PV.undef, PV.undef, PV.undef, PV.undef, PV.undef, PV.undef, PV.undef, PV.undef, PV.undef, PV.undef, PV.undef, PV.undef, PV.undef, PV.undef, PV.undef, PV.undef, PV.undef, PV.undef, PV.undef, PV.undef, PV.undef, PV.undef, PV.undef, PV.undef, PV.undef, PV.undef, PV.undef, PV.undef, PV.undef, PV.undef, PV.undef, PV.undef, PV.undef, PV.undef, PV.undef, PV.undef, PV.undef, PV.undef, PV.undef, PV.undef, PV.undef, PV.undef, PV.undef, PV.undef, PV.undef, PV.undef, PV.undef, PV.undef, PV.undef, PV.undef, PV.undef, PV.undef, v79, v80, v81, t82_0, t83_1, (strip t84_2), t85_5, t86_6, (strip t87_10), t88_7, t89_8, t90_11, t91_12, t92_9, t93_13, t94_14, t95_15, (strip t96_16), t97_17, t98_18, PV.undef, PV.undef]) <|
 chk
 (M.bind (noPan (fa 2 v6)) fun t85_110 =>
 M.bind (noPan (fa 3 t85_110)) fun t86_111 =>
 M.bind (noPan (M.pure (strip v5))) fun t88_112 =>
 M.bind (noPan (fa 0 t14_3)) fun t89_113 =>
 M.bind (noPan (fa 3 t14_3)) fun t92_114 =>
 M.bind (noPan (ld (some 3) false t89_113)) fun t90_115 =>
 M.bind (noPan (ld none false t92_114)) fun t93_116 =>
 M.bind (noPan (callV P C t88_112 [(strip t90_115)])) fun t91_117 =>
 M.bind (noPan (bd [(.int .i64 0), (.bool false), (.int .i64 0), (.bool false)] [(0, 3, t91_117), (3, 1, t93_116)])) fun t94_118 =>
 M.bind (noPan (bs true (some 4) [t94_118])) fun t95_119 =>
 M.bind (noPan (ld none true t86_111)) fun t87_120 =>
 M.bind (noPan (ap true 4 32 t87_120 t95_119)) fun t96_121 =>
 M.bind (noPan (fa 2 v6)) fun t97_122 =>
 M.bind (noPan (fa 3 t97_122)) fun t98_123 =>
 M.bind (noPan (st 1 true t98_123 t96_121)) fun _ =>
 M.pure [PV.undef, PV.undef, PV.undef, PV.undef, v4, v5, v6, PV.undef, PV.undef, PV.undef, PV.undef, PV.undef, PV.undef, PV.undef, t14_3, PV.undef, PV.undef, PV.undef, PV.undef, PV.undef, PV.undef, PV.undef, PV.undef, PV.undef, PV.undef, PV.undef, PV.undef, PV.undef, PV.undef, PV.undef, PV.undef, PV.undef, PV.undef, PV.undef, PV.undef, PV.undef, PV.undef, PV.undef, PV.undef, PV.undef, PV.undef, PV.undef, PV.undef, PV.undef, PV.undef, PV.undef, PV.undef, PV.undef, PV.undef, PV.undef, PV.undef, PV.undef, PV.undef, PV.undef, PV.undef, PV.undef, PV.undef, PV.undef, PV.undef, PV.undef, PV.undef, PV.undef, PV.undef, PV.undef, PV.undef, PV.undef, PV.undef, PV.undef, PV.undef, PV.undef, PV.undef, PV.undef, PV.undef, PV.undef, PV.undef, PV.undef, PV.undef, PV.undef, PV.undef, v79, v80, v81, t82_0, t83_1, (strip t84_2), t85_110, t86_111, (strip t87_120), t88_112, t89_113, t90_115, t91_117, t92_114, t93_116, t94_118, t95_119, (strip t96_121), t97_122, t98_123, PV.undef, PV.undef])
 (M.bind (noPan (fa 2 v6)) fun t85_5 =>
 M.bind (noPan (fa 3 t85_5)) fun t86_6 =>
 M.bind (noPan (M.pure (strip v5))) fun t88_7 =>
 M.bind (noPan (fa 0 t14_3)) fun t89_8 =>
 M.bind (noPan (fa 3 t14_3)) fun t92_9 =>
 M.bind (noPan (ld none true t86_6)) fun t87_10 =>
 M.bind (noPan (ld (some 3) false t89_8)) fun t90_11 =>
 M.bind (noPan (callV P C t88_7 [(strip t90_11)])) fun t91_12 =>
 M.bind (noPan (ld none false t92_9)) fun t93_13 =>
 M.bind (noPan (bd [(.int .i64 0), (.bool false), (.int .i64 0), (.bool false)] [(0, 3, t91_12), (3, 1, t93_13)])) fun t94_14 =>
 M.bind (noPan (bs true (some 4) [t94_14])) fun t95_15 =>
 M.bind (noPan (ap true 4 32 t87_10 t95_15)) fun t96_16 =>
 M.bind (noPan (fa 2 v6)) fun t97_17 =>
 M.bind (noPan (fa 3 t97_17)) fun t98_18 =>
 M.bind (noPan (st 1 true t98_18 t96_16)) fun _ =>
 M.pure [PV.undef, PV.undef, PV.undef, PV.undef, v4, v5, v6, PV.undef, PV.undef, PV.undef, PV.undef, PV.undef, PV.undef, PV.undef, t14_3, PV.undef, PV.undef, PV.undef, PV.undef, PV.undef, PV.undef, PV.undef, PV.undef, PV.undef, PV.undef, PV.undef, PV.undef, PV.undef, PV.undef, PV.undef, PV.undef, PV.undef, PV.undef, PV.undef, PV.undef, PV.undef, PV.undef, PV.undef, PV.undef, PV.undef, PV.undef, PV.undef, PV.undef, PV.undef, PV.undef, PV.undef, PV.undef, PV.undef, PV.undef, PV.undef, PV.undef, PV.undef, PV.undef, PV.undef, PV.undef, PV.undef, PV.undef, PV.undef, PV.undef, PV.undef, PV.undef, PV.undef, PV.undef, PV.undef, PV.undef, PV.undef, PV.undef, PV.undef, PV.undef, PV.undef, PV.undef, PV.undef, PV.undef, PV.undef, PV.undef, PV.undef, PV.undef, PV.undef, PV.undef, v79, v80, v81, t82_0, t83_1, (strip t84_2), t85_5, t86_6, (strip t87_10), t88_7, t89_8, t90_11, t91_12, t92_9, t93_13, t94_14, t95_15, (strip t96_16), t97_17, t98_18, PV.undef, PV.undef]) <|
 chk
 (M.bind (noPan (fa 2 v6)) fun t85_125 =>
 M.bind (noPan (fa 3 t85_125)) fun t86_126 =>
 M.bind (noPan (M.pure (strip v5))) fun t88_127 =>
 M.bind (noPan (fa 0 t14_3)) fun t89_128 =>
 M.bind (noPan (fa 3 t14_3)) fun t92_129 =>
 M.bind (noPan (ld none false t92_129)) fun t93_130 =>
 M.bind (noPan (ld none true t86_126)) fun t87_131 =>
 M.bind (noPan (ld (some 3) false t89_128)) fun t90_132 =>
 M.bind (noPan (callV P C t88_127 [(strip t90_132)])) fun t91_133 =>
 M.bind (noPan (bd [(.int .i64 0), (.bool false), (.int .i64 0), (.bool false)] [(0, 3, t91_133), (3, 1, t93_130)])) fun t94_134 =>
 M.bind (noPan (bs true (some 4) [t94_134])) fun t95_135 =>
 M.bind (noPan (ap true 4 32 t87_131 t95_135)) fun t96_136 =>
 M.bind (noPan (fa 2 v6)) fun t97_137 =>
 M.bind (noPan (fa 3 t97_137)) fun t98_138 =>
 M.bind (noPan (st 1 true t98_138 t96_136)) fun _ =>
 M.pure [PV.undef, PV.undef, PV.undef, PV.undef, v4, v5, v6, PV.undef, PV.undef, PV.undef, PV.undef, PV.undef, PV.undef, PV.undef, t14_3, PV.undef, PV.undef, PV.undef, PV.undef, PV.undef, PV.undef, PV.undef, PV.undef, PV.undef, PV.undef, PV.undef, PV.undef, PV.undef, PV.undef, PV.undef, PV.undef, PV.undef, PV.undef, PV.undef, PV.undef, PV.undef, PV.undef, PV.undef, PV.undef, PV.undef, PV.undef, PV.undef, PV.undef, PV.undef, PV.undef, PV.undef, PV.undef, PV.undef, PV.undef, PV.undef, PV.undef, PV.undef, PV.undef, PV.undef, PV.undef, PV.undef, PV.undef, PV.undef, PV.undef, PV.undef, PV.undef, PV.undef, PV.undef, PV.undef, PV.undef, PV.undef, PV.undef, PV.undef, PV.undef, PV.undef, PV.undef, PV.undef, PV.undef, PV.undef, PV.undef, PV.undef, PV.undef, PV.undef, PV.undef, v79, v80, v81, t82_0, t83_1, (strip t84_2), t85_125, t86_126, (strip t87_131), t88_127, t89_128, t90_132, t91_133, t92_129, t93_130, t94_134, t95_135, (strip t96_136), t97_137, t98_138, PV.undef, PV.undef])
 (M.bind (noPan (fa 2 v6)) fun t85_5 =>
 M.bind (noPan (fa 3 t85_5)) fun t86_6 =>
 M.bind (noPan (M.pure (strip v5))) fun t88_7 =>
 M.bind (noPan (fa 0 t14_3)) fun t89_8 =>
 M.bind (noPan (fa 3 t14_3)) fun t92_9 =>
 M.bind (noPan (ld none true t86_6)) fun t87_10 =>
 M.bind (noPan (ld (some 3) false t89_8)) fun t90_11 =>
 M.bind (noPan (callV P C t88_7 [(strip t90_11)])) fun t91_12 =>
 M.bind (noPan (ld none false t92_9)) fun t93_13 =>
 M.bind (noPan (bd [(.int .i64 0), (.bool false), (.int .i64 0), (.bool false)] [(0, 3, t91_12), (3, 1, t93_13)])) fun t94_14 =>
 M.bind (noPan (bs true (some 4) [t94_14])) fun t95_15 =>
 M.bind (noPan (ap true 4 32 t87_10 t95_15)) fun t96_16 =>
 M.bind (noPan (fa 2 v6)) fun t97_17 =>
 M.bind (noPan (fa 3 t97_17)) fun t98_18 =>
 M.bind (noPan (st 1 true t98_18 t96_16)) fun _ =>
 M.pure [PV.undef, PV.undef, PV.undef, PV.undef, v4, v5, v6, PV.undef, PV.undef, PV.undef, PV.undef, PV.undef, PV.undef, PV.undef, t14_3, PV.undef, PV.undef, PV.undef, PV.undef, PV.undef, PV.undef, PV.undef, PV.undef, PV.undef, PV.undef, PV.undef, PV.undef, PV.undef, PV.undef, PV.undef, PV.undef, PV.undef, PV.undef, PV.undef, PV.undef, PV.undef, PV.undef, PV.undef, PV.undef, PV.undef, PV.undef, PV.undef, PV.undef, PV.undef, PV.undef, PV.undef, PV.undef, PV.undef, PV.undef, PV.undef, PV.undef, PV.undef, PV.undef, PV.undef, PV.undef, PV.undef, PV.undef, PV.undef, PV.undef, PV.undef, PV.undef, PV.undef, PV.undef, PV.undef, PV.undef, PV.undef, PV.undef, PV.undef, PV.undef, PV.undef, PV.undef, PV.undef, PV.undef, PV.undef, PV.undef, PV.undef, PV.undef, PV.undef, PV.undef, v79, v80, v81, t82_0, t83_1, (strip t84_2), t85_5, t86_6, (strip t87_10), t88_7, t89_8, t90_11, t91_12, t92_9, t93_13, t94_14, t95_15, (strip t96_16), t97_17, t98_18, PV.undef, PV.undef]) <|
 M.bind (noPan (fa 2 v6)) fun t85_140 =>
 M.bind (noPan (fa 3 t85_140)) fun t86_141 =>
 M.bind (noPan (M.pure (strip v5))) fun t88_142 =>
 M.bind (noPan (fa 0 t14_3)) fun t89_143 =>
 M.bind (noPan (fa 3 t14_3)) fun t92_144 =>
 M.bind (noPan (ld none true t86_141)) fun t87_145 =>
 M.bind (noPan (ld (some 3) false t89_143)) fun t90_146 =>
 M.bind (noPan (callV P C t88_142 [(strip t90_146)])) fun t91_147 =>
 M.bind (noPan (ld none false t92_144)) fun t93_148 =>
 M.bind (noPan (bd [(.int .i64 0), (.bool false), (.int .i64 0), (.bool false)] [(0, 3, t91_147), (3, 1, t93_148)])) fun t94_149 =>
 M.bind (noPan (bs true (some 4) [t94_149])) fun t95_150 =>
 M.bind (noPan (ap true 4 32 t87_145 t95_150)) fun t96_151 =>
 M.bind (noPan (fa 2 v6)) fun t97_152 =>
 M.bind (noPan (fa 3 t97_152)) fun t98_153 =>
 M.bind (noPan (st 1 true t98_153 t96_151)) fun _ =>
 M.bind (bi .add .none v81 (.int .i64 1)) fun t99_155 =>
 u0b v4 v5 v6 v79 v80 (strip t99_155))
 (M.bind (ld (some 6) true v6) fun t100_156 =>
 M.bind (st 6 true v4 t100_156) fun _ =>
 M.bind (ld (some 6) true v4) fun t0_158 => guardM (!isTup t0_158) (M.pure t0_158)) :=
 (u0n P X _ _ _).trans (by kernel_rfl)
theorem u92 (a0 a1 : PV) : C u0r [a0, a1] =
 trunc (M.bind (bx 6 a0) fun t2_0 =>
 M.bind (bx 1 a1) fun t3_1 =>
 M.bind (al [(.bool false), (.slice false true 0 []), (.int .i64 0), (.slice false true 0 []), (.slice false true 0 []), (.slice false true 0 [])]) fun t4_2 =>
 M.bind (mf u01 [] [t3_1]) fun t15_3 =>
 M.bind (fa 0 t2_0) fun t16_4 =>
 M.bind (ld none false t16_4) fun t17_5 =>
 M.bind (fa 2 t2_0) fun t18_6 =>
 M.bind (fa 0 t18_6) fun t19_7 =>
 M.bind (ld none false t19_7) fun t20_8 =>
 M.bind (bd [(.int .i64 0), (.slice false true 0 []), (.slice false true 0 []), (.slice false true 0 [])] [(0, 1, t20_8)]) fun t21_9 =>
 M.bind (bd [(.bool false), (.slice false true 0 []), (.int .i64 0), (.slice false true 0 []), (.slice false true 0 []), (.slice false true 0 [])] [(0, 1, t17_5), (2, 4, t21_9)]) fun t22_10 =>
 M.bind (al [(.bool false), (.slice false true 0 []), (.int .i64 0), (.slice false true 0 []), (.slice false true 0 []), (.slice false true 0 [])]) fun t6_11 =>
 M.bind (st 6 true t6_11 t22_10) fun _ =>
 M.bind (fa 1 t2_0) fun t23_13 =>
 M.bind (ld none false t23_13) fun t24_14 =>
 M.bind (lnL t24_14) fun t25_15 =>
 u0u t2_0 t3_1 t4_2 t15_3 t6_11 t24_14 t25_15 (.int .i64 0)) := by
 rw [C, u0w _ _ rfl]; kernel_rfl
theorem ubh (a0 : PV) : C u2v [a0] =
 trunc (resT a0 (M.pure a0)) := by
 rw [C, u0w _ _ rfl]; kernel_rfl
noncomputable def u0s (v0 v1 v4 v5 : PV) : M PV := atP P X u0y [1, 1, 0, 1, 0] (mkEnv 27 0 [(0, v0), (1, v1), (4, v4), (5, v5)])
theorem u1v (v0 v1 v4 v5 : PV) : u0s v0 v1 v4 v5 =
 M.bind (lnL (strip v0)) fun t13_0 =>
 M.bind (bi .lss .none (strip v5) t13_0) fun t14_1 =>
 condM t14_1
 (M.bind (noPan (M.pure (strip v0))) fun t17_12 =>
 M.bind (noPan (M.pure (strip v5))) fun t18_13 =>
 M.bind (noPan (iaS 3 t17_12 t18_13)) fun t19_14 =>
 M.bind (noPan (M.pure (strip v1))) fun t21_15 =>
 M.bind (noPan (M.pure (strip v5))) fun t22_16 =>
 M.bind (noPan (iaS 3 t21_15 t22_16)) fun t23_17 =>
 M.bind (noPan (ld (some 3) false t19_14)) fun t20_18 =>
 M.bind (noPan (ld (some 3) false t23_17)) fun t24_19 =>
 M.bind (noPan (C u27 [(strip t20_18), (strip t24_19)])) fun t25_20 =>
 M.bind (noPan (un .not t25_20)) fun t26_21 =>
 condM t26_21
 (M.pure (.bool false))
 (M.bind (bi .add .none (strip v5) (.int .i64 1)) fun t16_22 =>
 u0s v0 v1 v4 t16_22))
 (M.pure (.bool true)) :=
 (u0n P X _ _ _).trans (by kernel_rfl)
theorem u44 (a0 a1 : PV) : C u0y [a0, a1] =
 trunc (M.bind (lnL (strip a0)) fun t7_0 =>
 M.bind (lnL (strip a1)) fun t9_1 =>
 M.bind (bi .neq .none t7_0 t9_1) fun t10_2 =>
 condM t10_2
 (M.pure (.bool false))
 (u0s a0 a1 (.bool false) (.int .i64 0))) := by
 rw [C, u0w _ _ rfl]; kernel_rfl
noncomputable def u0p (v0 v1 v4 v5 : PV) : M PV := atP P X u1b [1, 1, 0, 1, 0] (mkEnv 42 0 [(0, v0), (1, v1), (4, v4), (5, v5)])
theorem u1q (v0 v1 v4 v5 : PV) : u0p v0 v1 v4 v5 =
 M.bind (lnL (strip v0)) fun t13_0 =>
 M.bind (bi .lss .none (strip v5) t13_0) fun t14_1 =>
 condM t14_1
 (M.bind (noPan (M.pure (strip v0))) fun t17_27 =>
 M.bind (noPan (M.pure (strip v5))) fun t18_28 =>
 M.bind (noPan (iaS 4 t17_27 t18_28)) fun t19_29 =>
 M.bind (noPan (fa 3 t19_29)) fun t20_30 =>
 M.bind (noPan (M.pure (strip v1))) fun t22_31 =>
 M.bind (noPan (M.pure (strip v5))) fun t23_32 =>
 M.bind (noPan (iaS 4 t22_31 t23_32)) fun t24_33 =>
 M.bind (noPan (fa 3 t24_33)) fun t25_34 =>
 M.bind (noPan (ld none false t20_30)) fun t21_35 =>
 M.bind (noPan (ld none false t25_34)) fun t26_36 =>
 M.bind (noPan (bi .neq .bool t21_35 t26_36)) fun t27_37 =>
 M.bind (noPan (M.pure (strip t27_37))) fun t28_38 =>
 M.bind (noPan (gd t28_38 false (M.pure (strip v0)))) fun t29_39 =>
 M.bind (noPan (gd t28_38 false (M.pure (strip v5)))) fun t30_40 =>
 M.bind (noPan (gd t28_38 false (iaS 4 t29_39 t30_40))) fun t31_41 =>
 M.bind (noPan (gd t28_38 false (fa 0 t31_41))) fun t32_42 =>
 M.bind (noPan (gd t28_38 false (M.pure (strip v1)))) fun t34_43 =>
 M.bind (noPan (gd t28_38 false (M.pure (strip v5)))) fun t35_44 =>
 M.bind (noPan (gd t28_38 false (iaS 4 t34_43 t35_44))) fun t36_45 =>
 M.bind (noPan (gd t28_38 false (fa 0 t36_45))) fun t37_46 =>
 M.bind (noPan (gd t28_38 false (ld (some 3) false t32_42))) fun t33_47 =>
 M.bind (noPan (gd t28_38 false (ld (some 3) false t37_46))) fun t38_48 =>
 M.bind (noPan (gd t28_38 false (C u27 [(strip t33_47), (strip t38_48)]))) fun t39_49 =>
 M.bind (noPan (gd t28_38 false (un .not t39_49))) fun t40_50 =>
 M.bind (noPan (pick t28_38 (.bool true) t40_50)) fun t41_51 =>
 condM t41_51
 (M.pure (.bool false))
 (M.bind (bi .add .none (strip v5) (.int .i64 1)) fun t16_52 =>
 u0p v0 v1 v4 t16_52))
 (M.pure (.bool true)) :=
 (u0n P X _ _ _).trans (by kernel_rfl)
theorem u3w (a0 a1 : PV) : C u1b [a0, a1] =
 trunc (M.bind (lnL (strip a0)) fun t7_0 =>
 M.bind (lnL (strip a1)) fun t9_1 =>
 M.bind (bi .neq .none t7_0 t9_1) fun t10_2 =>
 condM t10_2
 (M.pure (.bool false))
 (u0p a0 a1 (.bool false) (.int .i64 0))) := by
 rw [C, u0w _ _ rfl]; kernel_rfl
noncomputable def u3a (v0 v3 : PV) : M PV := atP P X u2n [1, 1] (mkEnv 11 0 [(0, v0), (3, v3)])
theorem u3l (v0 v3 : PV) : u3a v0 v3 =
 resT v0 (M.pure v0) :=
 (u0n P X _ _ _).trans (by kernel_rfl)
theorem u84 (a0 a1 : PV) : C u2n [a0, a1] =
 trunc (M.bind (bi .geq .none (strip a0) (.int .i64 0)) fun t5_0 =>
 condM t5_0
 (M.bind (ld none true a1) fun t6_1 =>
 M.bind (bs true none [(strip a0)]) fun t8_2 =>
 M.bind (ap true 1 8 t6_1 t8_2) fun t9_3 =>
 M.bind (st 1 true a1 t9_3) fun _ =>
 u3a a0 (.int .i64 0))
 (u3a a0 (.int .i64 0))) := by
 rw [C, u0w _ _ rfl]; kernel_rfl
end Go.Proofs.YtiiepllnnjjmaaaDoor.Pi.Q
namespace Go.Proofs.YtiiepllnnjjmaaaDoor.Pi.Q
open Go Go.Proofs.YtiiepllnnjjmaaaDoor.Pi
noncomputable def u0j (v1 v2 v3 v4 : PV) : M PV := atP P X u1t [1, 1, 1, 1, 1, 0, 1, 0] (mkEnv 41 0 [(1, v1), (2, v2), (3, v3), (4, v4)])
theorem u23 (v1 v2 v3 v4 : PV) : u0j v1 v2 v3 v4 =
 M.bind (fa 2 v1) fun t22_0 =>
 M.bind (fa 3 t22_0) fun t23_1 =>
 M.bind (ld none false t23_1) fun t24_2 =>
 M.bind (lnL t24_2) fun t25_3 =>
 M.bind (bi .lss .none (strip v4) t25_3) fun t26_4 =>
 condM t26_4
 (M.bind (fa 2 v1) fun t30_5 =>
 M.bind (fa 3 t30_5) fun t31_6 =>
 M.bind (ld none false t31_6) fun t32_7 =>
 M.bind (iaS 4 t32_7 (strip v4)) fun t34_8 =>
 M.bind (fa 0 t34_8) fun t35_9 =>
 M.bind (ld (some 3) false t35_9) fun t36_10 =>
 M.bind (bs true (some 3) [t36_10]) fun t37_11 =>
 M.bind (C u0f [(strip t37_11)]) fun t38_12 =>
 M.bind (ap true 1 8 v3 t38_12) fun t39_13 =>
 M.bind (bi .add .none (strip v4) (.int .i64 1)) fun t28_14 =>
 u0j v1 v2 t39_13 t28_14)
 (resT v3 (M.pure v3)) :=
 (u0n P X _ _ _).trans (by kernel_rfl)
theorem u63 (a0 : PV) : C u1t [a0] =
 trunc (M.bind (bx 6 a0) fun t1_0 =>
 M.bind (fa 1 t1_0) fun t6_1 =>
 M.bind (ld none false t6_1) fun t7_2 =>
 M.bind (ap true 1 8 (.slice false true 0 []) t7_2) fun t8_3 =>
 M.bind (fa 2 t1_0) fun t10_4 =>
 M.bind (fa 1 t10_4) fun t11_5 =>
 M.bind (ld none false t11_5) fun t12_6 =>
 M.bind (C u0f [(strip t12_6)]) fun t13_7 =>
 M.bind (ap true 1 8 t8_3 t13_7) fun t14_8 =>
 M.bind (fa 2 t1_0) fun t16_9 =>
 M.bind (fa 2 t16_9) fun t17_10 =>
 M.bind (ld none false t17_10) fun t18_11 =>
 M.bind (C u0f [(strip t18_11)]) fun t19_12 =>
 M.bind (ap true 1 8 t14_8 t19_12) fun t20_13 =>
 u0j t1_0 (.slice false true 0 []) t20_13 (.int .i64 0)) := by
 rw [C, u0w _ _ rfl]; kernel_rfl
theorem u6m (a0 a1 a2 : PV) : C u2p [a0, a1, a2] =
 trunc (M.bind (ld none false a1) fun t5_0 =>
 M.bind (gd (strip t5_0) true (M.pure (strip a0))) fun t7_1 =>
 M.bind (gd (strip t5_0) true (ld none false a2)) fun t8_2 =>
 M.bind (gd (strip t5_0) true (bi .lss .none t7_1 t8_2)) fun t9_3 =>
 M.bind (pick (strip t5_0) t9_3 (.bool false)) fun t10_4 =>
 M.bind (gd (strip t10_4) true (M.pure (strip a0))) fun t12_5 =>
 M.bind (gd (strip t10_4) true (bi .geq .none t12_5 (.int .i64 (-12)))) fun t13_6 =>
 M.bind (pick (strip t10_4) t13_6 (.bool false)) fun t14_7 =>
 M.bind (st 1 true a1 t14_7) fun _ =>
 resT a0 (M.pure a0)) := by
 rw [C, u0w _ _ rfl]; kernel_rfl
noncomputable def u1d (v1 v2 v4 v5 : PV) : M PV := atP P X u1n [1, 0, 1, 0] (mkEnv 51 0 [(1, v1), (2, v2), (4, v4), (5, v5)])
noncomputable def u15 (v1 v4 v6 v7 : PV) : M PV := atP P X u1n [1, 1, 1, 0, 1, 0] (mkEnv 51 0 [(1, v1), (4, v4), (6, v6), (7, v7)])
theorem u2e (v1 v2 v4 v5 : PV) : u1d v1 v2 v4 v5 =
 M.bind (fa 1 v2) fun t9_0 =>
 M.bind (ld none false t9_0) fun t10_1 =>
 M.bind (lnL t10_1) fun t11_2 =>
 M.bind (bi .lss .none (strip v5) t11_2) fun t12_3 =>
 condM t12_3
 (M.bind (fa 1 v2) fun t15_4 =>
 M.bind (ld none false t15_4) fun t16_5 =>
 M.bind (iaS 1 t16_5 (strip v5)) fun t18_6 =>
 M.bind (ld none false t18_6) fun t19_7 =>
 M.bind (bi .lss .none t19_7 (.int .i64 0)) fun t20_8 =>
 M.bind (gd (strip t20_8) false (fa 1 v2)) fun t22_9 =>
 M.bind (gd (strip t20_8) false (ld none false t22_9)) fun t23_10 =>
 M.bind (gd (strip t20_8) false (M.pure (strip v5))) fun t24_11 =>
 M.bind (gd (strip t20_8) false (iaS 1 t23_10 t24_11)) fun t25_12 =>
 M.bind (gd (strip t20_8) false (ld none false t25_12)) fun t26_13 =>
 M.bind (gd (strip t20_8) false (M.pure (strip v1))) fun t27_14 =>
 M.bind (gd (strip t20_8) false (bi .geq .none t26_13 t27_14)) fun t28_15 =>
 M.bind (pick (strip t20_8) (.bool true) t28_15) fun t29_16 =>
 condM t29_16
 (M.pure (.bool false))
 (M.bind (bi .add .none (strip v5) (.int .i64 1)) fun t14_17 =>
 u1d v1 v2 v4 t14_17))
 (M.bind (ld (some 6) false v2) fun t30_18 =>
 M.bind (C u1t [(strip t30_18)]) fun t31_19 =>
 u15 v1 v4 t31_19 (.int .i64 0)) :=
 (u0n P X _ _ _).trans (by kernel_rfl)
theorem u2b (v1 v4 v6 v7 : PV) : u15 v1 v4 v6 v7 =
 M.bind (lnL (strip v6)) fun t34_0 =>
 M.bind (bi .lss .none (strip v7) t34_0) fun t35_1 =>
 condM t35_1
 (M.bind (iaS 1 (strip v6) (strip v7)) fun t40_2 =>
 M.bind (ld none false t40_2) fun t41_3 =>
 M.bind (bi .geq .none t41_3 (strip v1)) fun t43_4 =>
 M.bind (gd (strip t43_4) false (M.pure (strip v6))) fun t45_5 =>
 M.bind (gd (strip t43_4) false (M.pure (strip v7))) fun t46_6 =>
 M.bind (gd (strip t43_4) false (iaS 1 t45_5 t46_6)) fun t47_7 =>
 M.bind (gd (strip t43_4) false (ld none false t47_7)) fun t48_8 =>
 M.bind (gd (strip t43_4) false (bi .lss .none t48_8 (.int .i64 (-12)))) fun t49_9 =>
 M.bind (pick (strip t43_4) (.bool true) t49_9) fun t50_10 =>
 condM t50_10
 (M.pure (.bool false))
 (M.bind (bi .add .none (strip v7) (.int .i64 1)) fun t37_11 =>
 u15 v1 v4 v6 t37_11))
 (M.pure (.bool true)) :=
 (u0n P X _ _ _).trans (by kernel_rfl)
theorem u5m (a0 a1 : PV) : C u1n [a0, a1] =
 trunc (M.bind (bx 6 a0) fun t2_0 =>
 u1d a1 t2_0 (.bool false) (.int .i64 0)) := by
 rw [C, u0w _ _ rfl]; kernel_rfl
theorem u7h : C u3v [] =
 trunc (M.bind (al [(.str ⟨#[]⟩), (.str ⟨#[]⟩), (.str ⟨#[]⟩), (.str ⟨#[]⟩), (.str ⟨#[]⟩), (.str ⟨#[]⟩), (.str ⟨#[]⟩), (.str ⟨#[]⟩)]) fun t0_0 =>
 M.bind (bd [(.str ⟨#[]⟩), (.str ⟨#[]⟩), (.str ⟨#[]⟩), (.str ⟨#[]⟩), (.str ⟨#[]⟩), (.str ⟨#[]⟩), (.str ⟨#[]⟩), (.str ⟨#[]⟩)] [(0, 1, (.str ⟨#[]⟩)), (1, 1, (.str ⟨#[105, 51, 50]⟩)), (2, 1, (.str ⟨#[105, 54, 52]⟩)), (3, 1, (.str ⟨#[102, 51, 50]⟩)), (4, 1, (.str ⟨#[102, 54, 52]⟩)), (5, 1, (.str ⟨#[]⟩)), (6, 1, (.str ⟨#[105, 56]⟩)), (7, 1, (.str ⟨#[105, 49, 54]⟩))]) fun t1_1 =>
 M.bind (st 8 true t0_0 t1_1) fun _ =>
 M.bind (ld (some 8) true t0_0) fun t0_3 => guardM (!isTup t0_3) (M.pure t0_3)) := by
 rw [C, u0w _ _ rfl]; kernel_rfl
noncomputable def u2s (v2 v3 : PV) : M PV := atP P X u01 [1, 1] (mkEnv 13 0 [(2, v2), (3, v3)])
theorem u38 (v2 v3 : PV) : u2s v2 v3 =
 M.bind (ld (some 3) true v2) fun t12_0 =>
 M.bind (st 3 true v3 t12_0) fun _ =>
 M.bind (ld (some 3) true v3) fun t0_2 => guardM (!isTup t0_2) (M.pure t0_2) :=
 (u0n P X _ _ _).trans (by kernel_rfl)
theorem u6n (a0 a1 : PV) : C u01 [a0, a1] =
 trunc (M.bind (bx 3 a0) fun t2_0 =>
 M.bind (al [(.int .i64 0), (.bool false), (.int .i64 0)]) fun t3_1 =>
 M.bind (fa 0 t2_0) fun t4_2 =>
 M.bind (ld none false t4_2) fun t5_3 =>
 M.bind (bi .eql .none t5_3 (.int .i64 5)) fun t6_4 =>
 condM t6_4
 (M.bind (ld none false a1) fun t7_5 =>
 M.bind (fa 2 t2_0) fun t8_6 =>
 M.bind (ld none false t8_6) fun t9_7 =>
 M.bind (callV P C t7_5 [(strip t9_7)]) fun t10_8 =>
 M.bind (fa 2 t2_0) fun t11_9 =>
 M.bind (st 1 true t11_9 t10_8) fun _ =>
 u2s t2_0 t3_1)
 (u2s t2_0 t3_1)) := by
 rw [C, u0w _ _ rfl]; kernel_rfl
noncomputable def u18 (v0 v2 v3 v4 : PV) : M PV := atP P X u0f [1, 1, 0, 1, 0] (mkEnv 26 0 [(0, v0), (2, v2), (3, v3), (4, v4)])
noncomputable def u1f (v0 v2 v3 v4 : PV) : M PV := atP P X u0f [1, 1, 0, 1, 0, 0, 1, 1] (mkEnv 26 0 [(0, v0), (2, v2), (3, v3), (4, v4)])
theorem u2a (v0 v2 v3 v4 : PV) : u18 v0 v2 v3 v4 =
 M.bind (lnL (strip v0)) fun t7_0 =>
 M.bind (bi .lss .none (strip v4) t7_0) fun t8_1 =>
 condM t8_1
 (M.bind (iaS 3 (strip v0) (strip v4)) fun t13_2 =>
 M.bind (fa 0 t13_2) fun t14_3 =>
 M.bind (ld none false t14_3) fun t15_4 =>
 M.bind (bi .eql .none t15_4 (.int .i64 5)) fun t16_5 =>
 condM t16_5
 (M.bind (iaS 3 (strip v0) (strip v4)) fun t20_6 =>
 M.bind (fa 2 t20_6) fun t21_7 =>
 M.bind (ld none false t21_7) fun t22_8 =>
 M.bind (bs true none [t22_8]) fun t23_9 =>
 M.bind (ap true 1 8 v3 t23_9) fun t24_10 =>
 u1f v0 v2 t24_10 v4)
 (u1f v0 v2 v3 v4))
 (resT v3 (M.pure v3)) :=
 (u0n P X _ _ _).trans (by kernel_rfl)
theorem u1x (v0 v2 v3 v4 : PV) : u1f v0 v2 v3 v4 =
 M.bind (bi .add .none (strip v4) (.int .i64 1)) fun t10_0 =>
 u18 v0 v2 v3 t10_0 :=
 (u0n P X _ _ _).trans (by kernel_rfl)
theorem u4u (a0 : PV) : C u0f [a0] =
 trunc (u18 a0 (.slice false true 0 []) (.slice false true 0 []) (.int .i64 0)) := by
 rw [C, u0w _ _ rfl]; kernel_rfl
end Go.Proofs.YtiiepllnnjjmaaaDoor.Pi.Q
namespace Go.Proofs.YtiiepllnnjjmaaaDoor.Pi.Q
open Go Go.Proofs.YtiiepllnnjjmaaaDoor.Pi
attribute [local congr] ite_congr
structure VT where
  num : Int
  nul : Bool
  heap : Int
  deriving DecidableEq
def encV (v : VT) : PV := .agg [.int .i64 v.num, .bool v.nul, .int .i64 v.heap]
theorem ns (p : Nat) : ((p + 1 : Nat) : Int) = (p : Int) + 1 := rfl
end Go.Proofs.YtiiepllnnjjmaaaDoor.Pi.Q
namespace Go.Proofs.YtiiepllnnjjmaaaDoor.Pi.Q
open Go Go.Proofs.YtiiepllnnjjmaaaDoor.Pi
attribute [local congr] ite_congr
def accP (sz : Nat) (l : List PV) : PV := match l with | [] => .slice false true 0 [] | l => .slice true false sz l
theorem ap_acc {H : Heap} {sz b : Nat} {l : List PV} {v : PV} {o : Bool} (h : (l.length + 1) * max b 1 ≤ 140737488355328) :
    run (ap true sz b (accP sz l) (.slice o false sz [v])) H = some (.ok (accP sz (l ++ [v])) H) := by
  cases l with
  | nil =>
    unfold accP run ap tail growB
    have h2 : max b 1 ≤ 140737488355328 := by simpa using h
    simp [h2, M.pure]
  | cons x r =>
    unfold accP run ap tail growB
    have h2 : ((x :: r).length + [v].length) * max b 1 ≤ 140737488355328 := by simpa using h
    simp only [beq_self_eq_true, Bool.or_true, cond_true, cond_false, Bool.true_and, decide_eq_true h2]
    rfl
theorem u2o {sz : Nat} {l : List PV} : isTup (accP sz l) = false := by unfold accP; split <;> rfl
theorem u40 {sz n : Nat} {l : List PV} : (accP sz l).low n = true := by unfold accP; split <;> simp [u4p]
theorem u3t {sz : Nat} {l : List PV} : (accP sz l).cells = [accP sz l] := by unfold accP; split <;> rfl
theorem u3d {sz : Nat} {l : List PV} : isCell (accP sz l) = true := by unfold accP; split <;> rfl
structure BK where
  ty : Int
  res : VT
  deriving DecidableEq
end Go.Proofs.YtiiepllnnjjmaaaDoor.Pi.Q
namespace Go.Proofs.YtiiepllnnjjmaaaDoor.Pi.Q
open Go Go.Proofs.YtiiepllnnjjmaaaDoor.Pi
attribute [local congr] ite_congr
theorem run_mf {H : Heap} {f : FuncId} {a b : List PV} : run (mf f a b) H = if (a.all isVal && b.all isVal) = true then some (.ok (.fn f (a.map stripC) (b.map stripC)) H) else none := by
  unfold run mf
  cases (a.all isVal && b.all isVal) <;> rfl
end Go.Proofs.YtiiepllnnjjmaaaDoor.Pi.Q
namespace Go.Proofs.YtiiepllnnjjmaaaDoor.Pi.Q
open Go Go.Proofs.YtiiepllnnjjmaaaDoor.Pi
attribute [local congr] ite_congr
structure FT where
  ty : VT
  mu : Bool
  deriving DecidableEq
def encF (v : FT) : PV := .agg [.int .i64 v.ty.num, .bool v.ty.nul, .int .i64 v.ty.heap, .bool v.mu]
end Go.Proofs.YtiiepllnnjjmaaaDoor.Pi.Q
namespace Go.Proofs.YtiiepllnnjjmaaaDoor.Pi.Q
open Go Go.Proofs.YtiiepllnnjjmaaaDoor.Pi
attribute [local congr] ite_congr
abbrev encI (v : Int) : PV := .int .i64 v
def shutP (sz : Nat) (l : List PV) : PV := match l with | [] => .slice false true 0 [] | l => .slice false false sz l
theorem u8p {sz : Nat} {l : List PV} : isTup (shutP sz l) = false := by cases l <;> rfl
theorem u6h {sz : Nat} {l : List PV} : isCell (shutP sz l) = true := by cases l <;> rfl
theorem u8n {sz : Nat} {l : List PV} : (shutP sz l).cells = [shutP sz l] := by cases l <;> rfl
theorem low_P {sz : Nat} {l : List PV} {n : Nat} : (shutP sz l).low n = true := by cases l <;> simp [shutP, u4p]
theorem u9h {sz : Nat} {l : List PV} : strip (shutP sz l) = shutP sz l := by cases l <;> rfl
theorem u6a {sz : Nat} {l : List PV} : stripC (shutP sz l) = shutP sz l := by cases l <;> rfl
theorem u0x {sz : Nat} {l : List PV} : strip (accP sz l) = shutP sz l := by cases l <;> rfl
theorem u3b {sz : Nat} {l : List PV} : stripC (accP sz l) = shutP sz l := by cases l <;> rfl
structure CT where
  kind : Int
  ps : List VT
  rs : List VT
  fs : List FT
  deriving DecidableEq
structure ST where
  fin : Bool
  sup : List Int
  comp : CT
  deriving DecidableEq
end Go.Proofs.YtiiepllnnjjmaaaDoor.Pi.Q
namespace Go.Proofs.YtiiepllnnjjmaaaDoor.Pi.Q
open Go Go.Proofs.YtiiepllnnjjmaaaDoor.Pi
attribute [local congr] ite_congr
structure RT where
  types : List ST
  exp : Bool
  deriving DecidableEq
end Go.Proofs.YtiiepllnnjjmaaaDoor.Pi.Q
namespace Go.Proofs.YtiiepllnnjjmaaaDoor.Pi.Q
open Go Go.Proofs.YtiiepllnnjjmaaaDoor.Pi
attribute [local congr] ite_congr
def CT.fit (v : CT) : Prop := v.ps.length < 2 ^ 62 ∧ v.rs.length < 2 ^ 62 ∧ v.fs.length < 2 ^ 62
def ST.fit (v : ST) : Prop := v.sup.length < 2 ^ 62 ∧ v.comp.fit
def RT.fit (v : RT) : Prop := v.types.length < 2 ^ 62 ∧ ∀ t ∈ v.types, t.fit
end Go.Proofs.YtiiepllnnjjmaaaDoor.Pi.Q
namespace Go.Proofs.YtiiepllnnjjmaaaDoor.Pi
open Go.ChangeShapes Go.WideShapes
def litPV : Lit → PV
  | .int k n => .int k n
  | .bool b => .bool b
  | .string s => .str ⟨s.toArray⟩
  | _ => .undef
def wrapE (P : Program) (e : TypeId) (cs : List PV) : PV :=
  match tagg P e with
  | some _ => .agg cs
  | none => cs.headD .undef
mutual
def toldD {H : Type} (P : Program) : TypeId → DataW H → List PV
  | t, .lit l => [litPV l]
  | t, .nil => match P.underlying t with
    | some (.slice e) => [.slice false true 0 []]
    | _ => [.nil]
  | t, .slice elems _ => match P.underlying t with
    | some (.slice e) => [.slice false false (P.cellsOf e) (toldE P e elems)]
    | _ => []
  | t, .agg parts => match P.underlying t with
    | some (.struct fs) => toldF P fs.toList parts
    | _ => []
  | _, _ => []
def toldE {H : Type} (P : Program) (e : TypeId) : List (DataW H) → List PV
  | [] => []
  | d :: r => wrapE P e (toldD P e d) :: toldE P e r
def toldF {H : Type} (P : Program) : List Field → List (DataW H) → List PV
  | f :: fs, d :: r => toldD P f.type d ++ toldF P fs r
  | _, _ => []
end
def laidF (P : Program) : Nat → List Field → Option Nat
  | o, [] => some o
  | o, f :: r => bif f.offset == o then laidF P (o + P.cellsOf f.type) r else none
def plainT (P : Program) (T : List TypeId) (t : TypeId) : Bool :=
  match P.underlying t with
  | some .bool | some (.int _) | some .string => P.cellsOf t == 1 && (tagg P t).isNone
  | some (.slice e) => T.contains e && (decide (0 < P.cellsOf e) && (P.cellsOf t == 1 && (tagg P t).isNone))
  | some (.struct fs) => fs.toList.all (fun f => T.contains f.type) && (laidF P 0 fs.toList == some (P.cellsOf t) && (tagg P t).isSome)
  | _ => false
theorem uhx {P : Program} {T : List TypeId} {e : TypeId} (he : plainT P T e = true) {cs : List PV} (hl : cs.length = P.cellsOf e) (hc : ∀ (j : Nat) (c : PV), cs[j]? = some c → isCell c = true) : (wrapE P e cs).cells = cs := by
  have one : P.cellsOf e = 1 → (tagg P e).isNone = true → (wrapE P e cs).cells = cs := fun h1 h2 => by
    obtain ⟨c, rfl⟩ : ∃ c, cs = [c] := by
      cases cs with
      | nil => simp at hl; omega
      | cons c r =>
        cases r with
        | nil => exact ⟨c, rfl⟩
        | cons d r => simp at hl; omega
    have hcell := hc 0 c rfl
    unfold wrapE
    cases ht : tagg P e with
    | some _ => rw [ht] at h2; cases h2
    | none =>
      simp only [List.headD_cons]
      cases c <;> first | rfl | cases hcell
  unfold plainT at he
  split at he
  · simp only [Bool.and_eq_true, beq_iff_eq] at he; exact one he.1 he.2
  · simp only [Bool.and_eq_true, beq_iff_eq] at he; exact one he.1 he.2
  · simp only [Bool.and_eq_true, beq_iff_eq] at he; exact one he.1 he.2
  · simp only [Bool.and_eq_true, beq_iff_eq] at he; exact one he.2.2.1 he.2.2.2
  · simp only [Bool.and_eq_true, beq_iff_eq] at he
    unfold wrapE
    cases ht : tagg P e with
    | some _ => rfl
    | none => rw [ht] at he; cases he.2.2
  · cases he
def ToldOk (W : World) (cs : List Value) (ps : List PV) : Prop :=
  ps.length = cs.length ∧ ∀ (j : Nat) (c : PV), ps[j]? = some c → isCell c = true ∧ ∀ v, cs[j]? = some v → RepF (imOf W) c v
theorem ToldOk.one {W : World} {c : PV} {v : Value} (h1 : isCell c = true) (h2 : RepF (imOf W) c v) : ToldOk W [v] [c] :=
  ⟨rfl, fun j d hd => by
    cases j with
    | zero => simp at hd; subst hd; exact ⟨h1, fun u hu => by simp at hu; subst hu; exact h2⟩
    | succ j => simp at hd⟩
variable {H : Type} {enc : TypeId × Value → H} {P : Program} {W : World} {base : Nat} {spare : Nat → Bool} {held : Bool} {T : List TypeId}
theorem uah {W : World} {a : Addr} {n : Nat} {l : List Value} (hn : 0 < n) (h : W.cells? base a n = some l) : a.spot = none := by
  unfold World.cells? at h
  split at h
  · have h0 := mapM_some_get h 0 0 (by simp [hn])
    have : a.add 0 = a := by simp [Addr.add]
    rw [this] at h0
    unfold World.cell? at h0
    cases hs : a.spot with
    | none => rfl
    | some x =>
      rw [hs] at h0
      have hl := mapM_some_length h
      have hlt : 0 < l.length := by rw [hl]; simpa using hn
      rw [List.getElem?_eq_getElem hlt] at h0
      split at h0 <;> simp at h0
  · cases h
theorem ukk {W : World} {a : Addr} {n : Nat} {l : List Value} (h : W.cells? base a n = some l) (hs : a.spot = none) : l.length = n ∧ ∀ (j : Nat) (v : Value), l[j]? = some v → W.cell? ⟨a.block, a.off + j, none⟩ = some v := by
  unfold World.cells? at h
  split at h
  · refine ⟨by simpa using mapM_some_length h, fun j v hv => ?_⟩
    have hj : j < n := by
      have := (List.getElem?_eq_some_iff.mp hv).1
      have h2 := mapM_some_length h
      simp at h2
      omega
    have h0 := mapM_some_get h j j (by simp [hj])
    rw [hv] at h0
    have : a.add j = ⟨a.block, a.off + j, none⟩ := by
      obtain ⟨b, o, sp⟩ := a
      simp only at hs
      subst hs
      unfold Addr.add
      split <;> simp_all
    rw [this] at h0
    exact h0
  · cases h
theorem ue8 {P : Program} {e : TypeId} : ∀ (l : List (DataW H)) (i : Nat), (toldE P e l)[i]? = l[i]?.map fun d => wrapE P e (toldD P e d)
  | [], i => by simp [toldE]
  | d :: r, 0 => by simp [toldE]
  | d :: r, i + 1 => by simpa [toldE] using ue8 r i
theorem u76 {P : Program} {e : TypeId} : ∀ (l : List (DataW H)), (toldE P e l).length = l.length
  | [] => rfl
  | d :: r => by simp [toldE, u76 r]
theorem ToldOk.append {W : World} {cs ds : List Value} {ps qs : List PV} (h : ToldOk W cs ps) (k : ToldOk W ds qs) : ToldOk W (cs ++ ds) (ps ++ qs) := by
  refine ⟨by simp [h.1, k.1], fun j c hc => ?_⟩
  by_cases hj : j < ps.length
  · rw [List.getElem?_append_left hj] at hc
    obtain ⟨h1, h2⟩ := h.2 j c hc
    refine ⟨h1, fun v hv => h2 v ?_⟩
    rwa [List.getElem?_append_left (by rw [← h.1]; exact hj)] at hv
  · rw [List.getElem?_append_right (by omega)] at hc
    obtain ⟨h1, h2⟩ := k.2 _ c hc
    refine ⟨h1, fun v hv => h2 v ?_⟩
    rwa [List.getElem?_append_right (by rw [← h.1]; omega), ← h.1] at hv
theorem u9o (n : Nat) (ok : ∀ (t : TypeId) (cs : List Value) (x : DataW H × List MemPlace), T.contains t = true → DataW.trod enc P W base spare held n t cs = some x → cs.length = P.cellsOf t ∧ ToldOk W cs (toldD P t x.1)) (cs : List Value) :
    ∀ (fs : List Field) (o : Nat) (xs : List (DataW H × List MemPlace)), (∀ f ∈ fs, T.contains f.type = true) → laidF P o fs = some cs.length → xs.length = fs.length →
      (∀ (i : Nat) (f : Field), fs[i]? = some f → DataW.trod enc P W base spare held n f.type ((cs.drop f.offset).take (P.cellsOf f.type)) = xs[i]?) → o ≤ cs.length ∧ ToldOk W (cs.drop o) (toldF P fs (xs.map (·.1)))
  | [], o, xs, hT, hl, hx, h => by
    simp only [laidF, Option.some.injEq] at hl
    subst hl
    obtain rfl : xs = [] := List.eq_nil_of_length_eq_zero (by simpa using hx)
    exact ⟨Nat.le_refl _, by simp [toldF], by simp [toldF]⟩
  | f :: fs, o, xs, hT, hl, hx, h => by
    unfold laidF at hl
    cases ho : (f.offset == o) with
    | false => rw [ho] at hl; cases hl
    | true =>
      rw [ho] at hl
      simp only [cond_true] at hl
      obtain rfl : f.offset = o := by simpa using ho
      cases xs with
      | nil => simp at hx
      | cons y ys =>
        have h0 := h 0 f rfl
        simp only [List.getElem?_cons_zero] at h0
        obtain ⟨l1, l2⟩ := ok f.type _ y (hT f (by simp)) h0
        obtain ⟨k1, k2⟩ := u9o n ok cs fs _ ys (fun g hg => hT g (by simp [hg])) hl (by simpa using hx) (fun i g hg => by
          have := h (i + 1) g (by simpa using hg)
          simpa using this)
        refine ⟨by omega, ?_⟩
        have e1 : cs.drop f.offset = (cs.drop f.offset).take (P.cellsOf f.type) ++ cs.drop (f.offset + P.cellsOf f.type) := by
          rw [← List.drop_drop, List.take_append_drop]
        rw [e1]
        simp only [List.map_cons, toldF]
        exact l2.append k2
theorem told_ok (hT : T.all (plainT P T) = true) (hsp : ∀ b, spare b = true) : ∀ (n : Nat) (t : TypeId) (cs : List Value) (x : DataW H × List MemPlace), T.contains t = true → DataW.trod enc P W base spare held n t cs = some x → cs.length = P.cellsOf t ∧ ToldOk W cs (toldD P t x.1) := by
  intro n
  induction n with
  | zero => intro t cs x _ h; simp [DataW.trod] at h
  | succ n ih =>
  intro t cs x ht h
  have hp : plainT P T t = true := List.all_eq_true.mp hT t (by simpa using ht)
  have hp0 := hp
  unfold plainT at hp
  split at hp
  · rename_i hu
    simp only [Bool.and_eq_true, beq_iff_eq] at hp
    obtain ⟨b, rfl, rfl⟩ := DataW.trod_bool hu h
    refine ⟨by simp [hp.1], ?_⟩
    simp only [toldD, litPV]
    exact .one rfl (.bool b)
  · rename_i k hu
    simp only [Bool.and_eq_true, beq_iff_eq] at hp
    obtain ⟨m, rfl, rfl, _⟩ := DataW.trod_int hu h
    refine ⟨by simp [hp.1], ?_⟩
    simp only [toldD, litPV]
    exact .one rfl (.int k m)
  · rename_i hu
    simp only [Bool.and_eq_true, beq_iff_eq] at hp
    obtain ⟨s, rfl, rfl, _⟩ := DataW.trod_string hu h
    refine ⟨by simp [hp.1], ?_⟩
    simp only [toldD, litPV]
    have e : (⟨s.data.toList.toArray⟩ : ByteArray) = s := by rw [Array.toArray_toList]
    rw [e]
    exact .one rfl (.str s)
  · rename_i e hu
    simp only [Bool.and_eq_true, beq_iff_eq, decide_eq_true_eq] at hp
    obtain ⟨he, hz, h1, _⟩ := hp
    have hpe : plainT P T e = true := List.all_eq_true.mp hT e (by simpa using he)
    rcases DataW.trod_slice hu h with ⟨rfl, rfl⟩ | ⟨a, len, cap, elems, rest, m, hm, rfl, rfl, hb, hlc, hcm, hlen, hel, hre, hno⟩
    · refine ⟨by simp [h1], ?_⟩
      simp only [toldD, hu]
      exact .one rfl (.snil 0)
    · obtain rfl : m = n := by omega
      refine ⟨by simp [h1], ?_⟩
      simp only [toldD, hu]
      have each : ∀ (i : Nat) (y : DataW H × List MemPlace), elems[i]? = some y → ∃ l : List Value, W.cells? base (a.add (i * P.cellsOf e)) (P.cellsOf e) = some l ∧ l.length = P.cellsOf e ∧ ToldOk W l (toldD P e y.1) := by
        intro i y hy
        have hi : i < len := by
          have := (List.getElem?_eq_some_iff.mp hy).1
          omega
        have := hel i hi
        rw [hy, Option.bind_eq_some_iff] at this
        obtain ⟨l, hl, hd⟩ := this
        obtain ⟨q1, q2⟩ := ih e l y he hd
        exact ⟨l, hl, q1, q2⟩
      have spot : a.spot = none ∨ cap = 0 := by
        by_cases hc : cap = 0
        · exact .inr hc
        · left
          have add0 : a.add (0 * P.cellsOf e) = a := by simp [Addr.add]
          by_cases hl0 : len = 0
          · obtain ⟨r1, r2⟩ := hre (hsp _)
            have := r2 0 (by omega)
            have hlt : 0 < rest.length := by omega
            rw [List.getElem?_eq_getElem hlt, Option.bind_eq_some_iff] at this
            obtain ⟨l, hl, _⟩ := this
            rw [hl0] at hl
            rw [show (0 + 0) * P.cellsOf e = 0 * P.cellsOf e by simp, add0] at hl
            exact uah hz hl
          · have hlt : 0 < elems.length := by omega
            obtain ⟨l, hl, _⟩ := each 0 _ (List.getElem?_eq_getElem hlt)
            rw [add0] at hl
            exact uah hz hl
      obtain ⟨g, o, sp⟩ := a
      have hcap : cap = 0 → elems = [] := fun h => List.eq_nil_of_length_eq_zero (by omega)
      have hL : (toldE P e (elems.map (·.1))).length = len := by rw [u76, List.length_map, hlen]
      have hget : ∀ (i : Nat) (x : PV), (toldE P e (elems.map (·.1)))[i]? = some x → sp = none ∧ ∃ l : List Value, (∀ (j : Nat) (v : Value), l[j]? = some v → imOf W g (o + i * P.cellsOf e + j) = some v) ∧ l.length = P.cellsOf e ∧ x.cells.length = P.cellsOf e ∧ ∀ (j : Nat) (c : PV), x.cells[j]? = some c → ∀ v, l[j]? = some v → RepF (imOf W) c v := by
        intro i x hx
        rw [ue8, List.getElem?_map] at hx
        cases hy : elems[i]? with
        | none => rw [hy] at hx; simp at hx
        | some y =>
          rw [hy] at hx
          simp only [Option.map_some, Option.some.injEq] at hx
          have hsn : sp = none := by
            rcases spot with h | h
            · exact h
            · rw [hcap h] at hy; simp at hy
          subst hsn
          obtain ⟨l, hl, q1, q2⟩ := each i y hy
          have hadd : (⟨g, o, none⟩ : Addr).add (i * P.cellsOf e) = ⟨g, o + i * P.cellsOf e, none⟩ := by unfold Addr.add; split <;> simp_all
          rw [hadd] at hl
          obtain ⟨_, q3⟩ := ukk hl rfl
          have hw := uhx hpe (cs := toldD P e y.1) (by rw [q2.1, q1]) (fun j c hc => (q2.2 j c hc).1)
          rw [hx] at hw
          refine ⟨rfl, l, fun j v hv => q3 j v hv, q1, by rw [hw, q2.1, q1], fun j c hc v hv => ?_⟩
          rw [hw] at hc
          exact (q2.2 j c hc).2 v hv
      have hrep := RepF.slice (im := imOf W) (g := g) (o := o) (cap := cap) (sz := P.cellsOf e) (sp := sp) (xs := toldE P e (elems.map (·.1))) (fun i j => (imOf W g (o + i * P.cellsOf e + j)).getD .nilIface) spot (by omega)
        (fun i x hx => (hget i x hx).2.choose_spec.2.2.1)
        (fun i x j c hx hc => by
          obtain ⟨_, l, l1, l2, l3, l4⟩ := hget i x hx
          have hj : j < l.length := by
            have := (List.getElem?_eq_some_iff.mp hc).1
            omega
          rw [l1 j _ (List.getElem?_eq_getElem hj)]
          rfl)
        (fun i x j c hx hc => by
          obtain ⟨_, l, l1, l2, l3, l4⟩ := hget i x hx
          have hj : j < l.length := by
            have := (List.getElem?_eq_some_iff.mp hc).1
            omega
          rw [l1 j _ (List.getElem?_eq_getElem hj)]
          exact l4 j c hc _ (List.getElem?_eq_getElem hj))
      rw [hL] at hrep
      exact .one rfl hrep
  · rename_i fs hu
    simp only [Bool.and_eq_true, beq_iff_eq, List.all_eq_true] at hp
    obtain ⟨hTf, hlaid, _⟩ := hp
    obtain ⟨xs, m, hm, rfl, hcl, hxl, hx⟩ := DataW.trod_struct hu h
    obtain rfl : m = n := by omega
    refine ⟨hcl, ?_⟩
    simp only [toldD, hu]
    have := u9o (T := T) m (fun t cs x ht hk => ih t cs x ht hk) cs fs.toList 0 xs (fun f hf => hTf f hf) (by rw [hcl]; exact hlaid) (by simpa using hxl) (fun i f hf => hx i f (by simpa using hf))
    simpa using this.2
  · cases hp
end Go.Proofs.YtiiepllnnjjmaaaDoor.Pi
namespace Go.Proofs.YtiiepllnnjjmaaaDoor.Pi
def LZ (z : Bool) (sz : Nat) (l : List PV) : PV := match l with | [] => .slice false z (if z then 0 else sz) [] | l => .slice false false sz l
structure GL (α : Type) where
  z : Bool
  l : List α
  deriving DecidableEq
section
variable {z : Bool} {sz : Nat} {l : List PV} {H : Heap}
theorem u0t : isTup (LZ z sz l) = false := by cases l <;> rfl
theorem u0m : isCell (LZ z sz l) = true := by cases l <;> rfl
theorem u19 : (LZ z sz l).cells = [LZ z sz l] := by cases l <;> rfl
theorem low_Z {n : Nat} : (LZ z sz l).low n = true := by cases l <;> simp [LZ, u4p]
theorem strip_Z : strip (LZ z sz l) = LZ z sz l := by cases l <;> rfl
theorem u08 : stripC (LZ z sz l) = LZ z sz l := by cases l <;> rfl
theorem ln_Z : run (lnL (LZ z sz l)) H = some (.ok (.int .i64 l.length) H) := by cases l <;> rfl
theorem ia_Z {i : Nat} {x : PV} (h : l[i]? = some x) : run (iaS sz (LZ z sz l) (.int .i64 i)) H = some (.ok (.elem x.cells) H) := by
  cases l with
  | nil => simp at h
  | cons a r =>
    show run (iaS sz (.slice false false sz (a :: r)) (.int .i64 i)) H = _
    rw [uen (by omega), Int.toNat_natCast, h]
    rfl
end
theorem u35 {sz : Nat} {l : List PV} : Q.shutP sz l = LZ true sz l := by cases l <;> rfl
end Go.Proofs.YtiiepllnnjjmaaaDoor.Pi
