/- What the law rests on, part 3 of 4: a reading of the program's code over told data, and what it comes to. -/
import Derived.Test.YtiiepllnnjjmaaaDoorPiS1
set_option linter.unusedVariables false
set_option linter.unusedSimpArgs false
set_option maxRecDepth 100000
namespace Go.Proofs.YtiiepllnnjjmaaaDoor.Pi
variable {g : G} {L L' : Owner} {w w' : World} {H : Heap} {x : Nat} {env : Env}
def Ex.to : Ex → Exit
  | .normal => .normal
  | .exit id => .exit id
  | .ret => .ret
def KLeaf (CDN : Option PV → CallT) (c : Ctx) (g0 : G) (w0 : World) (out : Out PV) (k : K) (Q : Exit → Act → World → Prop) : Prop := ∀ e, Leaf CDN c g0 w0 out (k e) (Q e.to)
theorem u6c (l : List Tmp) : ∀ (i : Nat) (env : Env) (t : Nat), (u2y l i env)[t]? = (env[t]?).map fun v => bif l.contains (i + t) then v else .undef
  | i, [], t => by simp [u2y]
  | i, v :: r, t => by
    cases t with
    | zero => simp [u2y]
    | succ t =>
      simp only [u2y, List.getElem?_cons_succ]
      rw [u6c l (i + 1) r t]
      simp [Nat.add_assoc, Nat.add_comm 1 t]
theorem ua3 (l : List Tmp) (env : Env) (t : Nat) : (keep l env)[t]? = (env[t]?).map fun v => bif l.contains t then v else .undef := by
  unfold keep
  rw [u6c]
  simp
theorem ue0 (l : List Tmp) (env : Env) : (keep l env).length = env.length := by
  have h1 : ∀ (i : Nat) (env : Env), (u2y l i env).length = env.length := by
    intro i env
    induction env generalizing i with
    | nil => rfl
    | cons v r ih => simp [u2y, ih]
  exact h1 0 env
theorem Sta.keep {c : Ctx} {a : Act} {Δ : List Dfr} (h : Sta c g H env a w Δ) {l : List Tmp} (hp : ∀ t ∈ c.prot, t ∈ l) : Sta c g H (keep l env) a w Δ := by
  refine ⟨h.inv, ⟨h.tok.one, by rw [ue0]; exact h.tok.len, fun t v p hv hp' => ?_, fun t p ht hp' => ?_⟩, h.defs.step (fun _ _ h => h) (fun _ _ _ h => h) (fun t ht id off he => ?_)⟩
  · rw [ua3] at hp'
    obtain ⟨q, hq, rfl⟩ := Option.map_eq_some_iff.mp hp'
    cases l.contains t
    · exact .one (.undef _)
    · exact h.tok.val t v q hv hq
  · rw [ua3] at hp'
    obtain ⟨q, hq, rfl⟩ := Option.map_eq_some_iff.mp hp'
    cases l.contains t
    · exact .inl rfl
    · exact h.tok.slot t q ht hq
  · have h1 : l.contains t = true := List.contains_iff_mem.mpr (hp t ht)
    rw [List.getD_eq_getElem?_getD] at he ⊢
    rw [ua3]
    cases hv : env[t]? with
    | none => rw [hv] at he; simp at he
    | some v =>
      rw [hv] at he
      simp only [Option.map_some, h1, cond_true]
      exact he
def LSound (CDN : Option PV → CallT) (c : Ctx) (L : LoopT) : Prop :=
  ∀ (af : List Tmp) (b : Code) (k : K) (Q : Exit → Act → World → Prop) (g0 : G) (w0 : World) (out : Out PV), (∀ t ∈ c.prot, t ∈ af) → KLeaf CDN c g0 w0 out k Q → u82 CDN c g0 w0 out (fun ch => Q (.panic ch)) →
    ∀ env a w g H Δ o, Glob g0 w0 g w → Sta c g H env a w Δ → L af b env k H = some o → unw CDN Δ o = some out → b.wp c.P Q a w
variable {c : Ctx} {CDN : Option PV → CallT}
theorem u36 (g : G) (w : World) : Glob g w g { w with drawn := w.drawn + 1 } := ⟨rfl, rfl, rfl, Nat.le_refl _, fun _ _ h k => ⟨h, k, rfl⟩, Grow.refl _ _⟩
theorem Sta.drew {a : Act} {Δ : List Dfr} (h : Sta c g H env a w Δ) : Sta c g H env a { w with drawn := w.drawn + 1 } Δ :=
  ⟨⟨h.inv.len, h.inv.nd, h.inv.im, h.inv.ow, fun id b x hb hx => by
    have := h.inv.box id b x hb hx
    cases x <;> exact this, h.inv.gl⟩, h.tok, h.defs⟩
theorem u2j (hC : CSound c.P c.C) (hrc : c.rc = none) (hle : ∀ r f a, Le (c.CD r f a) (CDN r f a)) {L : LoopT} (hL : LSound CDN c L) :
    ∀ (co : Code) (af : List Tmp) (k : K) (Q : Exit → Act → World → Prop) (g0 : G) (w0 : World) (out : Out PV), (∀ t ∈ c.prot, t ∈ af) → KLeaf CDN c g0 w0 out k Q → u82 CDN c g0 w0 out (fun ch => Q (.panic ch)) →
      ∀ env a w g H Δ o, Glob g0 w0 g w → Sta c g H env a w Δ → den c L af co env k H = some o → unw CDN Δ o = some out → co.wp c.P Q a w
  | .skip, af, k, Q, g0, w0, out, hp, hk, hpl, env, a, w, g, H, Δ, o, hgl, hS, h, hu => wp_skip (hk .normal Δ o g H env a w h hu hgl hS)
  | .label l, af, k, Q, g0, w0, out, hp, hk, hpl, env, a, w, g, H, Δ, o, hgl, hS, h, hu => wp_label (hk .normal Δ o g H env a w h hu hgl hS)
  | .ret, af, k, Q, g0, w0, out, hp, hk, hpl, env, a, w, g, H, Δ, o, hgl, hS, h, hu => wp_ret (hk .ret Δ o g H env a w h hu hgl hS)
  | .exit id, af, k, Q, g0, w0, out, hp, hk, hpl, env, a, w, g, H, Δ, o, hgl, hS, h, hu => wp_exit (hk (.exit id) Δ o g H env a w h hu hgl hS)
  | .region id ops true, af, k, Q, g0, w0, out, hp, hk, hpl, env, a, w, g, H, Δ, o, hgl, hS, h, hu => by
    have h : guardM (c.P.follows .mixedOrders && commB ops) (bif modeA ops && (c.rc.isNone && c.prot.isEmpty) then dOpsAA c ops env (k .normal) else bif modeP ops && c.rc.isNone then dOpsP c ops env (k .normal) else bif ops.any u0t || c.rc.isSome then dOpsW c ops 0 [] ops.toList env (k .normal) else dOpsN c ops ops.toList env (k .normal)) H = some o := h
    obtain ⟨hg, h⟩ := u01 h
    simp only [Bool.and_eq_true] at hg
    have hall : restOf ops (Array.replicate ops.size false) = List.range' 0 ops.toList.length := by
      unfold restOf
      rw [List.filter_eq_self.mpr, List.range_eq_range', Array.length_toList]
      intro i hi
      simp [Array.getD_eq_getD_getElem?, List.mem_range.mp hi]
    cases hba : (modeA ops && (c.rc.isNone && c.prot.isEmpty)) with
    | true =>
      rw [hba] at h
      have h : dOpsAA c ops env (k .normal) H = some o := h
      simp only [Bool.and_eq_true] at hba
      obtain ⟨hma, _, hprot⟩ := hba
      have hprot : c.prot = [] := List.isEmpty_iff.mp hprot
      obtain ⟨a1, a2, hals, h⟩ := udc h
      have hcons := ugg hma hals
      · obtain ⟨e2, H2, e1, H1, q2, q1, hsw, hx⟩ := chkA_some.mp h
        obtain ⟨e1', H1', L1, l1, _, l3, l4, hk'⟩ := uah _ _ _ _ hx
        obtain ⟨e1'', H1'', L1', l1', _, l3', l4', hp1⟩ := uah _ _ _ _ q1
        obtain ⟨e2'', H2'', L2, m1, _, m3, m4, hp2⟩ := uah _ _ _ _ q2
        have hp1 : some (Out.ok e1'' H1'') = some (Out.ok e1 H1) := hp1
        have hp2 : some (Out.ok e2'' H2'') = some (Out.ok e2 H2) := hp2
        simp only [Option.some.injEq, Out.ok.injEq] at hp1 hp2
        obtain ⟨rfl, rfl⟩ := hp1
        obtain ⟨rfl, rfl⟩ := hp2
        obtain ⟨rfl, rfl⟩ := ueu l4 l4' (l1.trans l1'.symm)
        have hal : ∀ i o, ops[i]? = some o → isAl o = true → i = a1 ∨ i = a2 := fun i o hi ho => by
          have hm : i ∈ alsOf ops := by
            unfold alsOf
            rw [List.mem_filter]
            exact ⟨List.mem_range.mpr (Array.getElem?_eq_some_iff.mp hi).1, by rw [hi]; exact ho⟩
          rw [hals] at hm
          simpa using hm
        have hsorted : (alsOf ops).Pairwise (· < ·) := by unfold alsOf; exact List.pairwise_lt_range.filter _
        rw [hals] at hsorted
        have h12 : a1 < a2 := by simpa using hsorted
        have hmem : ∀ i ∈ [a1, a2], i < ops.size := fun i hi => by
          rw [← hals] at hi
          unfold alsOf at hi
          exact List.mem_range.mp (List.mem_filter.mp hi).1
        have hlen0 := hS.inv.len
        refine wp_region_any hg.1 (u39 hC hg.2 (R := RB c ops a1 a2 e1' H1' e2'' H2'') (Δ := Δ) (g0 := g0) (w0 := w0) (fun A i B oi e K hi ha hnb hR => RB.front hg.2 h12 hal hcons A i B oi e K hi ha hnb hR) (fun e K gf af wf hR hglf hSf => ?_) ops.size _ env H a _ g (by simp) ?_ ?_ ?_ (hgl.trans (u36 g w)) hS.drew)
        · obtain ⟨_, _, hR⟩ := hR
          rcases hR with ⟨h1, _⟩ | ⟨_, hR | hR⟩
          · cases h1
          · obtain ⟨rfl, rfl⟩ := hR.nil
            exact hk .normal Δ o gf K e af wf hk' hu hglf hSf
          · obtain ⟨rfl, rfl⟩ := hR.nil
            have hlf : gf.ι.length = H.length + 2 := by
              rw [hSf.inv.len]
              obtain ⟨H0, x1, x2, hn, _, hH2, _⟩ := hsw
              rw [hH2]
              simp [hn]
            exact hk .normal Δ o (swG gf H.length) H1' e1' af wf hk' hu (uhc hlf hlen0 hgl.up hglf) (ujp hprot hsw hSf)
        · exact Nat.le_trans (List.length_filter_le _ _) (by simp)
        · intro j i hj hl
          simp [Array.getD_eq_getD_getElem?, hj] at hl
        · rw [hall, Array.length_toList, ← List.range_eq_range']
          refine ⟨List.pairwise_lt_range, fun i hi => List.mem_range.mp hi, .inl ⟨List.mem_range.mpr (hmem a1 (by simp)), List.mem_range.mpr (hmem a2 (by simp)), ⟨L1, l1, l3, l4⟩, ⟨L2, m1, m3, m4⟩⟩⟩
    | false =>
    rw [hba] at h
    cases hbp : (modeP ops && c.rc.isNone) with
    | true =>
      rw [hbp] at h
      have h : dOpsP c ops env (k .normal) H = some o := h
      unfold dOpsP at h
      cases hlb : lastB ops with
      | true =>
        rw [hlb] at h
        obtain ⟨e', H', hRL, hk'⟩ := u7g hg.2 h
        unfold u3x at hk'
        cases hol : ops[ops.size - 1]? with
        | none => rw [hol] at hk'; exact (u00 (H := H') hk').elim
        | some ol =>
          rw [hol] at hk'
          obtain ⟨hok, hk'⟩ := u01 hk'
          have hb : M.bind (gval c.P c.C c.rc ops e' ol) (fun v => k .normal (put c.rc ops e' ol v)) H' = some o := hk'
          have hn0 : 0 < ops.size := by
            rcases Nat.eq_zero_or_pos ops.size with h0 | h0
            · rw [Array.getElem?_eq_none (by omega)] at hol; cases hol
            · exact h0
          cases hgv : gval c.P c.C c.rc ops e' ol H' with
          | none => unfold M.bind at hb; rw [hgv] at hb; simp at hb
          | some o1 =>
            unfold M.bind at hb
            rw [hgv] at hb
            refine wp_region_any hg.1 (u8s hC hg.2 (R := RP c ops e' H' o1) (PQ := fun v K => o1 = .pan v K) (Δ := Δ) (g0 := g0) (w0 := w0) (fun A i B oi e K hi ha hnb hR => RP.front hlb hol hok hgv A i B oi e K hi hnb hR) (fun e K g a w hR hgl hS => ?_) (fun v K g e a w cv he hgl hS hr => ?_) ops.size _ env H a _ g (by simp) ?_ ?_ ?_ (hgl.trans (u36 g w)) hS.drew)
            · rcases hR with ⟨A, hA, _⟩ | ⟨_, v, o', ho', he, rfl⟩
              · simp at hA
              · rw [hol] at ho'
                cases ho'
                subst he
                exact hk .normal Δ o g K _ a w hb hu hgl hS
            · subst he
              simp only [Option.some.injEq] at hb
              subst hb
              exact hpl Δ v K g e a w cv hu hgl hS hr
            · exact Nat.le_trans (List.length_filter_le _ _) (by simp)
            · intro j i hj hl
              simp [Array.getD_eq_getD_getElem?, hj] at hl
            · rw [hall, Array.length_toList, ← List.range_eq_range']
              refine .inl ⟨List.range (ops.size - 1), ?_, fun k hk => List.mem_range.mp hk, hRL⟩
              rw [← List.range_succ]
              congr 1
              omega
      | false =>
        rw [hlb] at h
        obtain ⟨e', H', hRL, hk'⟩ := u7g hg.2 h
        refine wp_region_any hg.1 (u39 hC hg.2 (R := RL c ops e' H') (Δ := Δ) (g0 := g0) (w0 := w0) (fun A i B oi e K hi ha hnb hR => RL.front A i B oi e K hi hnb hR) (fun e K g a w hR hgl hS => ?_) ops.size _ env H a _ g (by simp) ?_ ?_ ?_ (hgl.trans (u36 g w)) hS.drew)
        · obtain ⟨rfl, rfl⟩ := hR.nil
          exact hk .normal Δ o g K e a w hk' hu hgl hS
        · exact Nat.le_trans (List.length_filter_le _ _) (by simp)
        · intro j i hj hl
          simp [Array.getD_eq_getD_getElem?, hj] at hl
        · rw [hall, Array.length_toList, ← List.range_eq_range']
          exact hRL
    | false =>
    rw [hbp] at h
    cases hbr : (ops.any u0t || c.rc.isSome) with
    | true =>
      rw [hbr] at h
      obtain ⟨e', H', L, l1, _, l3, l4, hk'⟩ := udl ops.toList [] 0 env H (fun j => by simp) h
      refine wp_region_any hg.1 (u39 hC hg.2 (R := RW c ops e' H') (Δ := Δ) (g0 := g0) (w0 := w0) (fun A i B oi e K hi ha hnb hR => RW.front hg.2 A i B oi e K hi ha hnb hR) (fun e K g a w hR hgl hS => ?_) ops.size _ env H a _ g (by simp) ?_ ?_ ?_ (hgl.trans (u36 g w)) hS.drew)
      · obtain ⟨rfl, rfl⟩ := hR.nil
        exact hk .normal Δ o g K e a w hk' hu hgl hS
      · exact Nat.le_trans (List.length_filter_le _ _) (by simp)
      · intro j i hj hl
        simp [Array.getD_eq_getD_getElem?, hj] at hl
      · rw [hall]
        exact ⟨L, l1, l3, l4⟩
    | false =>
      rw [hbr] at h
      obtain ⟨e', hrun, hk'⟩ := ugu ops.toList 0 env (fun j => by simp) h
      refine wp_region_any hg.1 (ui1 hC hg.2 (e' := e') (Δ := Δ) (g0 := g0) (w0 := w0) (fun g a w hgl hS => hk .normal Δ o g H e' a w hk' hu hgl hS) ops.size _ env a _ g (by simp) ?_ ?_ ?_ (hgl.trans (u36 g w)) hS.drew)
      · exact Nat.le_trans (List.length_filter_le _ _) (by simp)
      · intro j i hj hl
        simp [Array.getD_eq_getD_getElem?, hj] at hl
      · rw [hall]
        exact hrun
  | .region id ops false, af, k, Q, g0, w0, out, hp, hk, hpl, env, a, w, g, H, Δ, o, hgl, hS, h, hu => by
    refine wp_region ?_
    have := u5n (Q := Q) hC hrc hle (hk .normal) hpl ops.toList 0 env a w g H Δ o (fun j => by simp) hgl hS h hu
    rwa [List.range_eq_range', ← Array.length_toList]
  | .seq x y, af, k, Q, g0, w0, out, hp, hk, hpl, env, a, w, g, H, Δ, o, hgl, hS, h, hu => by
    refine wp_seq ?_
    refine u2j hC hrc hle hL x ((rw y).1 ++ af) _ (Exit.then (y.wp c.P Q) Q) g0 w0 out (fun t ht => List.mem_append_right _ (hp t ht)) (fun e => ?_) hpl env a w g H Δ o hgl hS h hu
    cases e with
    | normal =>
      intro Δ o g H env a w h hu hgl hS
      have h : (bif c.rc.isNone && joinB x then L af y (keep ((rw y).1 ++ af) env) k else den c L af y env k) H = some o := h
      cases hj : (c.rc.isNone && joinB x) with
      | false =>
        rw [hj] at h
        exact u2j hC hrc hle hL y af k Q g0 w0 out hp hk hpl _ a w g H Δ o hgl hS h hu
      | true =>
        rw [hj] at h
        exact hL af y k Q g0 w0 out hp hk hpl _ a w g H Δ o hgl (hS.keep (fun t ht => List.mem_append_right _ (hp t ht))) h hu
    | exit id => exact hk (.exit id)
    | ret => exact hk .ret
  | .cond q x y, af, k, Q, g0, w0, out, hp, hk, hpl, env, a, w, g, H, Δ, o, hgl, hS, h, hu => by
    have rq := ev_rep hS.inv hS.tok q
    have h : condM (ev env q) (den c L af x env k) (den c L af y env k) H = some o := h
    unfold condM at h
    cases hv : ev env q with
    | bool b =>
      rw [hv] at h rq
      have hq := rq.bool
      dsimp only at h
      refine wp_cond hq ?_
      cases b
      · exact u2j hC hrc hle hL y af k Q g0 w0 out hp hk hpl env a w g H Δ o hgl hS h hu
      · exact u2j hC hrc hle hL x af k Q g0 w0 out hp hk hpl env a w g H Δ o hgl hS h hu
    | _ => (rw [hv] at h; exact (u00 (H := H) h).elim)
  | .block id b, af, k, Q, g0, w0, out, hp, hk, hpl, env, a, w, g, H, Δ, o, hgl, hS, h, hu => by
    refine wp_block ?_
    refine u2j hC hrc hle hL b af _ (Exit.inBlock id Q) g0 w0 out hp (fun e => ?_) hpl env a w g H Δ o hgl hS h hu
    cases e with
    | normal => exact hk .normal
    | ret => exact hk .ret
    | exit i =>
      intro Δ o g H env a w h hu hgl hS
      by_cases hi : i = id
      · subst hi
        have h : (bif i == i then k .normal env else k (.exit i) env) H = some o := h
        rw [beq_self_eq_true] at h
        show if i = i then Q .normal a w else Q (.exit i) a w
        rw [if_pos rfl]
        exact hk .normal Δ o g H env a w h hu hgl hS
      · have h : (bif i == id then k .normal env else k (.exit i) env) H = some o := h
        have hb : (i == id) = false := by simpa using hi
        rw [hb] at h
        show if i = id then Q .normal a w else Q (.exit i) a w
        rw [if_neg hi]
        exact hk (.exit i) Δ o g H env a w h hu hgl hS
  | .loop b, af, k, Q, g0, w0, out, hp, hk, hpl, env, a, w, g, H, Δ, o, hgl, hS, h, hu =>
    hL af (.loop b) k Q g0 w0 out hp hk hpl _ a w g H Δ o hgl (hS.keep (fun t ht => List.mem_append_right _ (hp t ht))) h hu
  | .rangeFunc .., af, k, Q, g0, w0, out, hp, hk, hpl, env, a, w, g, H, Δ, o, hgl, hS, h, hu => (u00 (H := H) h).elim
  | .scope _, af, k, Q, g0, w0, out, hp, hk, hpl, env, a, w, g, H, Δ, o, hgl, hS, h, hu => (u00 (H := H) h).elim
  | .goto _, af, k, Q, g0, w0, out, hp, hk, hpl, env, a, w, g, H, Δ, o, hgl, hS, h, hu => (u00 (H := H) h).elim
  | .refuse _, af, k, Q, g0, w0, out, hp, hk, hpl, env, a, w, g, H, Δ, o, hgl, hS, h, hu => (u00 (H := H) h).elim
theorem u42 (p : Nat → Prop) (h : ∃ n, p n) : ∃ n, p n ∧ ∀ m, p m → n ≤ m := by
  obtain ⟨n, hn⟩ := h
  induction n using Nat.strongRecOn with
  | _ n ih =>
    by_cases hl : ∃ m, m < n ∧ p m
    · obtain ⟨m, hm, hp⟩ := hl
      exact ih m hm hp
    · exact ⟨n, hn, fun m hm => by
        rcases Nat.lt_or_ge m n with h | h
        · exact absurd ⟨m, h, hm⟩ hl
        · exact h⟩
noncomputable def least (p : Nat → Prop) (h : ∃ n, p n) : Nat := Classical.choose (u42 p h)
theorem ugk (p : Nat → Prop) (h : ∃ n, p n) : p (least p h) := (Classical.choose_spec (u42 p h)).1
theorem ukf (p : Nat → Prop) (h : ∃ n, p n) {m : Nat} (hm : p m) : least p h ≤ m := (Classical.choose_spec (u42 p h)).2 m hm
section
variable {P : Program} {X : ExtT}
variable {pr : List Tmp} {C1 C2 : CallT} {D1 D2 : Option PV → CallT} {rc : Option (Option PV)} {res : Env → M PV}
theorem ueg : ∀ {Δ : List Dfr} {ds : List Deferred}, DefsOk ⟨P, pr, C1, D1, rc, res⟩ g env Δ ds → DefsOk ⟨P, pr, C2, D2, rc, res⟩ g env Δ ds
  | [], [], h => h
  | q :: Δ, δ :: ds, h => ⟨h.1, h.2.1, ueg h.2.2⟩
  | [], _ :: _, h => h
  | _ :: _, [], h => h
theorem u58 {a : Act} {Δ : List Dfr} (h : Sta ⟨P, pr, C1, D1, rc, res⟩ g H env a w Δ) : Sta ⟨P, pr, C2, D2, rc, res⟩ g H env a w Δ := ⟨h.inv, h.tok, ueg h.defs⟩
theorem u5i {g0 : G} {w0 : World} {out : Out PV} {k : Env → M PV} {Q : Act → World → Prop} (h : Leaf CDN ⟨P, pr, C1, D1, rc, res⟩ g0 w0 out k Q) : Leaf CDN ⟨P, pr, C2, D2, rc, res⟩ g0 w0 out k Q :=
  fun Δ o g H env a w h1 h2 h3 h4 => h Δ o g H env a w h1 h2 h3 (u58 h4)
theorem u3p {g0 : G} {w0 : World} {out : Out PV} {Q : List PanicEntry → Act → World → Prop} (h : u82 CDN ⟨P, pr, C1, D1, rc, res⟩ g0 w0 out Q) : u82 CDN ⟨P, pr, C2, D2, rc, res⟩ g0 w0 out Q :=
  fun Δ v H g env a w cv h1 h2 h4 h5 => h Δ v H g env a w cv h1 h2 (u58 h4) h5
theorem uib (n : Nat) (r : Option PV) (f : FuncId) (a : List PV) : ∀ {m : Nat}, n ≤ m → Le ((sem P X n).CD r f a) ((sem P X m).CD r f a) := by
  intro m h
  induction h with
  | refl => exact Le.refl _
  | step _ ih => exact fun H q hq => (u3l P X _).CD r f a H q (ih H q hq)
theorem ugq (N : Nat) (hCs : ∀ m, m < N → CSound P (sem P X m).C) (C0 : CallT) (D0 : Option PV → CallT) (CDN : Option PV → CallT)
    (hle : ∀ m, m < N → ∀ r f a, Le ((sem P X m).CD r f a) (CDN r f a)) (n : Nat) (hn : n ≤ N) : LSound CDN ⟨P, pr, C0, D0, none, res⟩ ((sem P X n).L none pr res) := by
  induction n using Nat.strongRecOn with
  | _ n ih =>
  intro af co k Q g0 w0 out hp hk hpl env a w g H Δ o hgl hS h hu
  classical
  by_cases hco : ∃ b, co = .loop b
  case neg =>
    cases n with
    | zero => exact (u00 (H := H) h).elim
    | succ m =>
      have h : den ⟨P, pr, (sem P X m).C, (sem P X m).CD, none, res⟩ ((sem P X m).L none pr res) af co env k H = some o := by
        cases co with
        | loop b => exact absurd ⟨b, rfl⟩ hco
        | _ => exact h
      refine u2j (c := ⟨P, pr, (sem P X m).C, (sem P X m).CD, none, res⟩) (CDN := CDN) (hCs m (by omega)) rfl (hle m (by omega)) (L := (sem P X m).L none pr res) ?_ co af _ _ g0 w0 out hp (fun e => u5i (hk e)) (u3p hpl) env a w g H Δ o hgl (u58 hS) h hu
      intro af' b' k' Q' g0' w0' out' hp' hk' hpl' env' a' w' g' H' Δ' o' hgl' hS' h' hu'
      exact ih m (by omega) (by omega) af' b' k' Q' g0' w0' out' hp' (fun e => u5i (hk' e)) (u3p hpl') env' a' w' g' H' Δ' o' hgl' (u58 hS') h' hu'
  obtain ⟨b, rfl⟩ := hco
  -- what holds at the head of a round with depth m
  let J : Nat → Act → World → Prop := fun m a w => m ≤ n ∧ ∃ env g H Δ o, Glob g0 w0 g w ∧ Sta ⟨P, pr, C0, D0, none, res⟩ g H env a w Δ ∧ (sem P X m).L none pr res af (.loop b) env k H = some o ∧ unw CDN Δ o = some out
  let μ : Act → World → Nat := fun a w => if hh : ∃ m, J m a w then least (fun m => J m a w) hh else 0
  refine wp_loop (fun a w => ∃ m, J m a w) μ ⟨n, Nat.le_refl n, env, g, H, Δ, o, hgl, hS, h, hu⟩ ?_
  intro a w hI
  have hμ : μ a w = least (fun m => J m a w) hI := by
    show (if hh : ∃ m, J m a w then least (fun m => J m a w) hh else 0) = _
    rw [dif_pos hI]
  obtain ⟨hmN, env, g, H, Δ, o, hgl, hS, h, hu⟩ := ugk (fun m => J m a w) hI
  cases hm : least (fun m => J m a w) hI with
  | zero =>
    rw [hm] at h
    exact (u00 (H := H) h).elim
  | succ m =>
    rw [hm] at h hmN
    have hstep : Code.wp P b (Exit.then (fun a' w' => J m a' w') Q) a w := by
      refine u2j (c := ⟨P, pr, (sem P X m).C, (sem P X m).CD, none, res⟩) (CDN := CDN) (hCs m (by omega)) rfl (hle m (by omega)) (L := (sem P X m).L none pr res) ?_ b (alive af b) _ _ g0 w0 out (fun t ht => List.mem_append_right _ (hp t ht)) (fun e => ?_) ?_ env a w g H Δ o hgl (u58 hS) h hu
      · intro af' b' k' Q' g0' w0' out' hp' hk' hpl' env' a' w' g' H' Δ' o' hgl' hS' h' hu'
        exact ih m (by omega) (by omega) af' b' k' Q' g0' w0' out' hp' (fun e => u5i (hk' e)) (u3p hpl') env' a' w' g' H' Δ' o' hgl' (u58 hS') h' hu'
      · cases e with
        | normal =>
          intro Δ o g H env a w h hu hgl hS
          exact ⟨by omega, _, g, H, Δ, o, hgl, (u58 hS).keep (fun t ht => List.mem_append_right _ (hp t ht)), h, hu⟩
        | exit id => exact u5i (hk (.exit id))
        | ret => exact u5i (hk .ret)
      · exact u3p hpl
    refine wp_mono hstep fun e a' w' hq => ?_
    cases e with
    | normal =>
      have hJ : J m a' w' := hq
      refine ⟨⟨m, hJ⟩, ?_⟩
      rw [hμ, hm]
      have : μ a' w' = least (fun m => J m a' w') ⟨m, hJ⟩ := by
        show (if hh : ∃ m, J m a' w' then least (fun m => J m a' w') hh else 0) = _
        rw [dif_pos ⟨m, hJ⟩]
      rw [this]
      exact Nat.lt_succ_of_le (ukf (fun m => J m a' w') _ hJ)
    | _ => exact hq
end
end Go.Proofs.YtiiepllnnjjmaaaDoor.Pi
namespace Go.Proofs.YtiiepllnnjjmaaaDoor.Pi
variable {P : Program} {g : G} {L L' : Owner} {w w' : World} {H : Heap} {x : Nat} {env : Env}
def resRun (tm : Array Value) : ResultVar → Sem Value
  | .tmp t => pure (tm.getD t undef)
  | .cell a t => do loadVar t (← asAddr (tm.getD a undef))
theorem u7t {fn : Func} {tm : Array Value} {vs : List Value} (h : (fn.results.toList.mapM (resRun tm)).run P w = .ok vs w) : (results fn tm).run P w = .ok (if h : vs.length = 1 then vs[0] else .tuple vs.toArray) w := by
  have e : results fn tm = (do let vs ← fn.results.mapM (resRun tm); pure (if h : vs.size = 1 then vs[0] else .tuple vs)) := by
    unfold results
    congr 1
  rw [e, Array.mapM_eq_mapM_toList]
  simp only [Sem.run_bind, Sem.run_map, h, Result.andThen_ok, Sem.run_pure, Result.ok.injEq, and_true]
  by_cases h1 : vs.length = 1
  · rw [dif_pos h1, dif_pos (by simpa using h1)]
    simp
  · rw [dif_neg h1, dif_neg (by simpa using h1)]
def mvRes (s j : Nat) : Owner → Owner
  | .tmp t => if t = s then .sub .res j else .tmp t
  | M => M
theorem TOk.moveRes {tm : Array Value} (h : TOk x g env tm) (s j : Nat) : TOk x (g.ren (mvRes s j)) (env.set s (strip (env.getD s .undef))) tm := by
  have hl := h.len
  refine ⟨h.one, by simp [h.len], fun t u q hu hq => ?_, fun t q ht hq => ?_⟩
  · by_cases e : s = t
    · subst e
      have h2 : s < env.length := by
        have := (List.getElem?_eq_some_iff.mp hq).1
        simpa using this
      rw [List.getElem?_set_self h2] at hq
      simp only [Option.some.injEq] at hq
      subst hq
      have : env.getD s .undef = env[s] := by simp [List.getD, List.getElem?_eq_getElem h2]
      rw [this]
      exact (h.val s u _ hu (List.getElem?_eq_getElem h2)).stripRen _ _
    · rw [List.getElem?_set_ne e] at hq
      refine (h.val t u q hu hq).ren ?_ (fun j => rfl)
      show (if t = s then _ else _) = _
      rw [if_neg (fun h => e h.symm)]
  · have h3 := h.giveUp (some (s, none))
    exact h3.slot t q ht hq
def uiw : Owner → Prop
  | .up _ => True
  | .sub .res _ => True
  | _ => False
theorem RepT.notTup {p : PV} {v : Value} (h : RepT g L p v) (hn : isTup p = false) : RepS g L p v := by
  cases h with
  | one h => exact h
  | tup => simp [isTup] at hn
  | aggo => simp [isTup] at hn
theorem udd {tm : Array Value} {k : List PV → M PV} {o : Out PV} : ∀ (rs : List ResultVar) (env : Env) (acc : List PV) (g : G) (H : Heap), resV P env rs acc k H = some o → Inv g H w → TOk x g env tm →
    (∃ v H', o = .pan v H' ∧ False) ∨ ∃ pvs cvs g' H', (rs.mapM (resRun tm)).run P w = .ok cvs w ∧ k (acc.reverse ++ pvs) H' = some o ∧ Inv g' H' w ∧ Glob g w g' w ∧ Grow uiw g g' ∧ pvs.length = cvs.length ∧
      ∀ (j : Nat) (p : PV) (v : Value), pvs[j]? = some p → cvs[j]? = some v → RepS g' (.sub .res (acc.length + j)) p v
  | [], env, acc, g, H, h, hi, hT => .inr ⟨[], [], g, H, by simp, by simpa [resV] using h, hi, Glob.refl _ _, Grow.refl _ _, rfl, fun j p v hp => by simp at hp⟩
  | .tmp t :: r, env, acc, g, H, h, hi, hT => by
    refine .inr ?_
    unfold resV at h
    have rt := ev_tmp hT t
    cases ht : isTup (env.getD t .undef) with
    | true => rw [ht] at h; exact (u00 (H := H) h).elim
    | false =>
      rw [ht] at h
      dsimp only [cond_false] at h
      rcases udd r _ _ (g.ren (mvRes t acc.length)) H h (hi.ren (fun _ _ => rfl)) (hT.moveRes t acc.length) with ⟨_, _, _, hf⟩ | ⟨pvs, cvs, g', H', e1, e2, e3, e4, e5, e6, e7⟩
      · exact hf.elim
      refine ⟨env.getD t .undef :: pvs, tm.getD t undef :: cvs, g', H', ?_, ?_, e3, (u26 (w := w) (fun M => rfl)).trans e4, (u5j (fun M hM => by cases M <;> first | rfl | exact hM.elim)).trans e5, by simp [e6], fun j p v hp hv => ?_⟩
      · simp only [List.mapM_cons, Sem.run_bind, resRun, Sem.run_pure, Result.andThen_ok, e1]
      · simpa using e2
      · cases j with
        | zero =>
          simp at hp hv
          subst hp; subst hv
          have h1 : RepS (g.ren (mvRes t acc.length)) (.sub .res acc.length) (env.getD t .undef) (tm.getD t undef) := by
            refine (rt.notTup ht).ren ?_
            show (if t = t then _ else _) = _
            rw [if_pos rfl]
          have h1 := h1.mono e5 (L := .sub .res acc.length) True.intro
          simpa using h1
        | succ j =>
          have := e7 j p v (by simpa using hp) (by simpa using hv)
          simpa [Nat.add_assoc, Nat.add_comm 1 j] using this
  | .cell a t :: r, env, acc, g, H, h, hi, hT => by
    refine .inr ?_
    unfold resV at h
    obtain ⟨hk, h⟩ := u01 h
    unfold M.bind at h
    have rt := ev_tmp hT a
    cases hld : ld (tagg P t) true (env.getD a .undef) H with
    | none => rw [hld] at h; simp at h
    | some o1 =>
      rw [hld] at h
      obtain ⟨v, H1, cv, g1, rfl, h1, h2, h3, h4, h5⟩ := ld_mvS (P := P) (w := w) (tm.size + acc.length + 1) hk hld hi rt
      dsimp only at h
      obtain ⟨hnt, h⟩ := u01 h
      have hnt : isTup v = false := by simpa using hnt
      have hT1 : TOk x g1 env tm := hT.mono h3 (fun M hM => by cases M <;> first | exact True.intro | exact hM.elim)
      have hT2 : TOk x (g1.ren (mvRes (tm.size + acc.length + 1) acc.length)) env tm := by
        refine ⟨hT1.one, hT1.len, fun t' u q hu hq => (hT1.val t' u q hu hq).ren ?_ (fun j => rfl), hT1.slot⟩
        show (if t' = tm.size + acc.length + 1 then _ else _) = _
        rw [if_neg (by have := (Array.getElem?_eq_some_iff.mp hu).1; omega)]
      have hload : (resRun tm (.cell a t)).run P w = .ok cv w := by
        unfold resRun
        have h1' := h1
        unfold Instr.loadAt at h1'
        cases hv : tm.getD a undef with
        | pointer p =>
          rw [hv] at h1'
          cases p with
          | none => simp [Instr.sureAddr] at h1'
          | some ad =>
            dsimp only
            rw [hv]
            simpa [Instr.sureAddr, asAddr] using h1'
        | _ => rw [hv] at h1'; simp [Instr.sureAddr] at h1'
      rcases udd r env (v :: acc) (g1.ren (mvRes (tm.size + acc.length + 1) acc.length)) H1 h (h4.ren (fun _ _ => rfl)) hT2 with ⟨_, _, _, hf⟩ | ⟨pvs, cvs, g', H', e1, e2, e3, e4, e5, e6, e7⟩
      · exact hf.elim
      · refine ⟨v :: pvs, cv :: cvs, g', H', ?_, by simpa using e2, e3, h2.trans ((u26 (w := w) (fun M => rfl)).trans e4), ?_, by simp [e6], fun j p u hp hu => ?_⟩
        · simp only [List.mapM_cons, Sem.run_bind, hload, Sem.run_pure, Result.andThen_ok, e1]
        · exact (h3.sub (fun M hM => by cases M <;> first | exact True.intro | exact hM.elim)).trans ((u5j (fun M hM => by cases M <;> first | rfl | exact hM.elim)).trans e5)
        · cases j with
          | zero =>
            simp at hp hu
            subst hp; subst hu
            have h6 := (h5.notTup hnt).ren (f := mvRes (tm.size + acc.length + 1) acc.length) (L' := .sub .res acc.length) (by
              show (if tm.size + acc.length + 1 = tm.size + acc.length + 1 then _ else _) = _
              rw [if_pos rfl])
            have h7 := h6.mono e5 (L := .sub .res acc.length) True.intro
            simpa using h7
          | succ j =>
            have := e7 j p u (by simpa using hp) (by simpa using hu)
            simpa [Nat.add_assoc, Nat.add_comm 1 j] using this
end Go.Proofs.YtiiepllnnjjmaaaDoor.Pi
namespace Go.Proofs.YtiiepllnnjjmaaaDoor.Pi
variable {P : Program} {g : G} {L L' : Owner} {w w' : World} {H : Heap} {x : Nat} {env : Env}
def u6m (g : G) (e : Env) (tm : Array Value) (rs : List ResultVar) : Prop :=
  ∀ r ∈ rs, ∃ a t id off b, r = .cell a t ∧ e.getD a .undef = .ptr id off ∧ g.ι[id]? = some b ∧ tm.getD a undef = .pointer (some ⟨b, off, none⟩)
theorem uhz {tm : Array Value} {k : List PV → M PV} {o : Out PV} {e : Env} : ∀ (rs : List ResultVar) (acc : List PV) (g : G) (H : Heap), resV P e rs acc k H = some o → Inv g H w → u6m g e tm rs →
    ∃ pvs cvs g' H', (rs.mapM (resRun tm)).run P w = .ok cvs w ∧ k (acc.reverse ++ pvs) H' = some o ∧ Inv g' H' w ∧ Glob g w g' w ∧ Grow uiw g g' ∧ pvs.length = cvs.length ∧
      ∀ (j : Nat) (p : PV) (v : Value), pvs[j]? = some p → cvs[j]? = some v → RepS g' (.sub .res (acc.length + j)) p v
  | [], acc, g, H, h, hi, hT => ⟨[], [], g, H, by simp, by simpa [resV] using h, hi, Glob.refl _ _, Grow.refl _ _, rfl, fun j p v hp => by simp at hp⟩
  | r0 :: r, acc, g, H, h, hi, hT => by
    obtain ⟨a, t, id, off, b, rfl, he, hb, hv⟩ := hT r0 List.mem_cons_self
    unfold resV at h
    obtain ⟨hk, h⟩ := u01 h
    unfold M.bind at h
    rw [he] at h
    have rt : RepT g (.tmp 0) (.ptr id off) (tm.getD a undef) := by rw [hv]; exact rT (.ptr hb) _
    cases hld : ld (tagg P t) true (.ptr id off) H with
    | none => rw [hld] at h; simp at h
    | some o1 =>
      rw [hld] at h
      obtain ⟨v, H1, cv, g1, rfl, h1, h2, h3, h4, h5⟩ := ld_mvS (P := P) (w := w) (tm.size + acc.length + 1) hk hld hi rt
      dsimp only at h
      obtain ⟨hnt, h⟩ := u01 h
      have hnt : isTup v = false := by simpa using hnt
      have hload : (resRun tm (.cell a t)).run P w = .ok cv w := by
        unfold resRun
        have h1' := h1
        unfold Instr.loadAt at h1'
        dsimp only
        rw [hv] at h1' ⊢
        simpa [Instr.sureAddr, asAddr] using h1'
      have hT2 : u6m (g1.ren (mvRes (tm.size + acc.length + 1) acc.length)) e tm r := fun q hq => by
        obtain ⟨a, t, id, off, b, e1, e2, e3, e4⟩ := hT q (List.mem_cons_of_mem _ hq)
        exact ⟨a, t, id, off, b, e1, e2, h2.up.ι _ _ e3, e4⟩
      obtain ⟨pvs, cvs, g', H', e1, e2, e3, e4, e5, e6, e7⟩ := uhz r (v :: acc) (g1.ren (mvRes (tm.size + acc.length + 1) acc.length)) H1 h (h4.ren (fun _ _ => rfl)) hT2
      refine ⟨v :: pvs, cv :: cvs, g', H', ?_, by simpa using e2, e3, h2.trans ((u26 (w := w) (fun M => rfl)).trans e4), ?_, by simp [e6], fun j p u hp hu => ?_⟩
      · simp only [List.mapM_cons, Sem.run_bind, hload, Sem.run_pure, Result.andThen_ok, e1]
      · exact (h3.sub (fun M hM => by cases M <;> first | exact True.intro | exact hM.elim)).trans ((u5j (fun M hM => by cases M <;> first | rfl | exact hM.elim)).trans e5)
      · cases j with
        | zero =>
          simp at hp hu
          subst hp; subst hu
          have h6 := (h5.notTup hnt).ren (f := mvRes (tm.size + acc.length + 1) acc.length) (L' := .sub .res acc.length) (by
            show (if tm.size + acc.length + 1 = tm.size + acc.length + 1 then _ else _) = _
            rw [if_pos rfl])
          have h7 := h6.mono e5 (L := .sub .res acc.length) True.intro
          simpa using h7
        | succ j =>
          have := e7 j p u (by simpa using hp) (by simpa using hu)
          simpa [Nat.add_assoc, Nat.add_comm 1 j] using this
def oneRes : Owner → Owner
  | .sub .res 0 => .res
  | M => M
def resFin : List PV → M PV
  | [v] => M.pure v
  | vs => M.pure (.tup vs)
theorem uc7 {fn : Func} {tm : Array Value} {o : Out PV} {pvs : List PV} {cvs : List Value} {g' : G} {H' : Heap} (e1 : (fn.results.toList.mapM (resRun tm)).run P w = .ok cvs w)
    (e2 : resFin pvs H' = some o) (e3 : Inv g' H' w) (e4 : Glob g w g' w) (e6 : pvs.length = cvs.length)
    (e7 : ∀ (j : Nat) (p : PV) (v : Value), pvs[j]? = some p → cvs[j]? = some v → RepS g' (.sub .res j) p v) :
    ∃ v cv g2, o = .ok v H' ∧ (results fn tm).run P w = .ok cv w ∧ Inv g2 H' w ∧ Glob g w g2 w ∧ RepT g2 .res v cv := by
  have hr := u7t e1
  match pvs, cvs, e6 with
  | [], [], _ =>
    simp only [resFin, M.pure, Option.some.injEq] at e2
    exact ⟨_, _, g', e2.symm, hr, e3, e4, .tup rfl fun j p v hp => by simp at hp⟩
  | [p], [cv], _ =>
    simp only [resFin, M.pure, Option.some.injEq] at e2
    refine ⟨p, cv, g'.ren oneRes, e2.symm, by simpa using hr, e3.ren (fun _ _ => rfl), e4.trans (u26 (fun _ => rfl)), .one ((e7 0 p cv rfl rfl).ren rfl)⟩
  | p :: q :: r, cp :: cq :: cr, h6 =>
    simp only [resFin, M.pure, Option.some.injEq] at e2
    refine ⟨_, .tuple (cp :: cq :: cr).toArray, g', e2.symm, by rw [hr]; simp, e3, e4, .tup (by simpa using h6.symm) fun j u v hu hv => e7 j u v hu (by simpa using hv)⟩
theorem uld {fn : Func} {tm : Array Value} {o : Out PV} (h : resM P fn env H = some o) (hi : Inv g H w) (hT : TOk x g env tm) :
    ∃ v H' cv g2, o = .ok v H' ∧ (results fn tm).run P w = .ok cv w ∧ Inv g2 H' w ∧ Glob g w g2 w ∧ RepT g2 .res v cv := by
  rcases udd (w := w) fn.results.toList env [] g H h hi hT with ⟨_, _, _, hf⟩ | ⟨pvs, cvs, g', H', e1, e2, e3, e4, e5, e6, e7⟩
  · exact hf.elim
  · obtain ⟨v, cv, g2, a, b, c, d, e⟩ := uc7 (fn := fn) e1 (by rcases pvs with _ | ⟨p, _ | ⟨q, r⟩⟩ <;> exact e2) e3 e4 e6 (by simpa using e7)
    exact ⟨v, H', cv, g2, a, b, c, d, e⟩
theorem ujv {fn : Func} {tm : Array Value} {o : Out PV} (h : resM P fn env H = some o) (hi : Inv g H w) (hT : u6m g env tm fn.results.toList) :
    ∃ v H' cv g2, o = .ok v H' ∧ (results fn tm).run P w = .ok cv w ∧ Inv g2 H' w ∧ Glob g w g2 w ∧ RepT g2 .res v cv := by
  obtain ⟨pvs, cvs, g', H', e1, e2, e3, e4, e5, e6, e7⟩ := uhz (w := w) fn.results.toList [] g H h hi hT
  obtain ⟨v, cv, g2, a, b, c, d, e⟩ := uc7 (fn := fn) e1 (by rcases pvs with _ | ⟨p, _ | ⟨q, r⟩⟩ <;> exact e2) e3 e4 e6 (by simpa using e7)
  exact ⟨v, H', cv, g2, a, b, c, d, e⟩
theorem u6v {CDN : Option PV → CallT} {c : Ctx} {fn : Func} {tm : Array Value} {R : Ending → World → Prop} {g0 : G} {w0 : World} {out0 : Out PV} (hCD : udp P CDN) (hres : c.res = resM P fn)
    (hprot : c.prot ≠ [] → ∀ r ∈ fn.results.toList, ∃ a t, r = .cell a t ∧ a ∈ c.prot)
    (hR : ∀ g v H cv w, out0 = .ok v H → Glob g0 w0 g w → Inv g H w → RepT g .res v cv → R (.returned cv) w) :
    ∀ (Δ : List Dfr) (d : Dfr) (δ : Deferred) (ds : List Deferred) (o : Out PV) (g : G) (H : Heap) (w : World) (u : FrameMode), (match o with | .ok _ H' => H' = H ∧ u = .returning | .pan p H' => H' = H ∧ ∃ cv, u = .panicking [{ v := cv, recovered := false }] ∧ Rep g.ι g.im p cv) →
      Inv g H w → DefsOk c g env (d :: Δ) (δ :: ds) → unw CDN (d :: Δ) o = some out0 → Glob g0 w0 g w → (∀ t ∈ c.prot, ∀ id off, env.getD t .undef = .ptr id off → ∃ b, g.ι[id]? = some b ∧ tm.getD t undef = .pointer (some ⟨b, off, none⟩)) →
      Leaves P fn tm R (δ :: ds) u w
  | Δ, d, δ, ds, o, g, H, w, u, ho, hi, ⟨⟨cap, cargs, hδ, hargs⟩, ⟨hne, ed, hed, hpt⟩, hrest⟩, hu, hgl, hpr => by
    subst hδ
    -- the call itself
    have hcall : ∃ rv v H2, CDN rv d.f d.args H = some (.ok v H2) ∧ ModeOk g rv u ∧ ∃ o', d.res H2 = some o' ∧ unw CDN Δ o' = some out0 ∧ settle (u1v v u) = .returning := by
      have hu' : (dstep CDN d o).bind (unw CDN Δ) = some out0 := hu
      obtain ⟨o', hd, hΔ⟩ := Option.bind_eq_some_iff.mp hu'
      cases o with
      | ok v0 H' =>
        obtain ⟨rfl, rfl⟩ := ho
        have hd : M.bind (CDN none d.f d.args) (fun _ => d.res) H' = some o' := hd
        unfold M.bind at hd
        cases hc : CDN none d.f d.args H' with
        | none => rw [hc] at hd; simp at hd
        | some o1 =>
          obtain ⟨_, v, H2, rfl, _⟩ := hCD _ _ _ _ _ hc
          rw [hc] at hd
          refine ⟨none, v, H2, hc, rfl, o', hd, hΔ, ?_⟩
          unfold u1v
          split <;> first | rfl | (rename_i h; cases h) | rfl
      | pan p H' =>
        obtain ⟨rfl, cv, rfl, hrp⟩ := ho
        have hd : M.bind (CDN (some p) d.f d.args) (fun r => match r with | .tup [] => d.res | _ => M.fail) H' = some o' := hd
        unfold M.bind at hd
        cases hc : CDN (some p) d.f d.args H' with
        | none => rw [hc] at hd; simp at hd
        | some o1 =>
          obtain ⟨_, v, H2, rfl, _⟩ := hCD _ _ _ _ _ hc
          rw [hc] at hd
          dsimp only at hd
          split at hd
          · exact ⟨some p, .tup [], H2, hc, ⟨cv, rfl, hrp⟩, o', hd, hΔ, rfl⟩
          · exact (u00 (H := H2) hd).elim
    obtain ⟨rv, v, H2, hc, hm, o', hres', hΔ, hset⟩ := hcall
    obtain ⟨hcal, v', H2', hov, hsound⟩ := hCD _ _ _ _ _ hc
    simp only [Out.ok.injEq] at hov
    obtain ⟨rfl, rfl⟩ := hov
    refine leaves_cons ?_ (by
      show (callFunc d.f (cargs ++ cap)).run P w = _
      exact u5v hcal) ((hsound g w _ u hi hargs hm).mono ?_)
    · intro e
      cases rv with
      | none => have hm : u = .returning := hm; rw [hm] at e; cases e
      | some p => obtain ⟨cv, hm, _⟩ := hm; rw [hm] at e; cases e
    rintro e u' w1 ⟨g1, cv, hgl1, hgr1, rfl, hi1, rfl⟩
    show Leaves P fn tm R ds (settle (u1v v u)) w1
    rw [hset]
    have hcells : u6m g1 ed tm fn.results.toList := by
      intro r hr
      obtain ⟨a, t, rfl, hap⟩ := hprot hne r hr
      obtain ⟨id, off, h1, h2⟩ := hpt a hap
      obtain ⟨b, hb, htv⟩ := hpr a hap id off h2
      exact ⟨a, t, id, off, b, rfl, h1, hgr1.ι _ _ hb, htv⟩
    rw [hed, hres] at hres'
    obtain ⟨vr, H3, cvr, g3, rfl, hrun, hi3, hgl3, hrep3⟩ := ujv (tm := tm) hres' hi1 hcells
    cases Δ with
    | nil =>
      have hds : ds = [] := by cases ds <;> first | rfl | exact hrest.elim
      subst hds
      have : out0 = .ok vr H3 := by
        have : some (Out.ok vr H3) = some out0 := hΔ
        exact (Option.some.inj this).symm
      exact ⟨cvr, hrun, hR g3 vr H3 cvr w1 this (hgl.trans (hgl1.trans hgl3)) hi3 hrep3⟩
    | cons d2 Δ2 =>
      cases ds with
      | nil => exact hrest.elim
      | cons δ2 ds2 =>
        refine u6v hCD hres hprot hR Δ2 d2 δ2 ds2 (.ok vr H3) g3 H3 w1 .returning ⟨rfl, rfl⟩ hi3 (DefsOk.step (hgl1.trans hgl3).up.ι (hgl1.trans hgl3).up.im (fun t _ id off he => he) hrest) hΔ (hgl.trans (hgl1.trans hgl3)) (fun t ht id off he => ?_)
        obtain ⟨b, hb, htv⟩ := hpr t ht id off he
        exact ⟨b, (hgl1.trans hgl3).up.ι _ _ hb, htv⟩
end Go.Proofs.YtiiepllnnjjmaaaDoor.Pi
namespace Go.Proofs.YtiiepllnnjjmaaaDoor.Pi
variable {P : Program} {g : G} {L L' : Owner} {w w' : World} {H : Heap} {x : Nat} {env : Env}
theorem uc2 {args : List PV} {cargs : Array Value} {n : Nat} (h : ArgsOk g args cargs) : TOk 0 (g.ren upF) (args ++ List.replicate (n - args.length) .undef) (cargs ++ Array.replicate (n - cargs.size) undef) := by
  have hs := h.size
  refine ⟨by omega, by simp [hs], fun t v p hv hp => ?_, fun t p ht hp => ?_⟩
  · by_cases ht : t < args.length
    · rw [List.getElem?_append_left ht] at hp
      rw [Array.getElem?_append_left (by omega)] at hv
      obtain ⟨r, s⟩ := h.rep t p v hp hv
      exact r.still s (g' := g.ren upF) (fun _ _ h => h) (fun _ _ _ h => h) _
    · rw [List.getElem?_append_right (by omega)] at hp
      have : p = .undef := by
        have := List.mem_of_getElem? hp
        simpa using (List.mem_replicate.mp this).2
      subst this
      exact .one (.undef _)
  · have h1 := (List.getElem?_eq_some_iff.mp hp).1
    simp [hs] at ht h1
    omega
theorem uel {g' : G} (h : Glob g w g' w') : g.ι.length ≤ g'.ι.length := by
  rcases Nat.lt_or_ge g'.ι.length g.ι.length with h1 | h1
  · exfalso
    have h2 := h.up.ι g'.ι.length _ (List.getElem?_eq_getElem h1)
    have := (List.getElem?_eq_some_iff.mp h2).1
    omega
  · exact h1
theorem uhk {g1 : G} {w1 : World} {v : PV} {cv : Value} {H' : Heap} (hH : g.ι.length = H.length) (hgl : Glob (g.ren upF) w g1 w1) (hi : Inv g1 H' w1) (hr : RepT g1 .res v cv) :
    u2h g w (.ok v (bif v.low H.length then H'.take H.length else H')) (.returned cv) w1 := by
  have hlen : g.ι.length ≤ g1.ι.length := uel (g := g.ren upF) hgl
  have hi2 : Inv (g1.ren downF) H' w1 := hi.ren (fun _ _ => rfl)
  have hr2 : RepT (g1.ren downF) .res v cv := hr.ren rfl (fun _ => rfl)
  cases hl : v.low H.length with
  | true =>
    obtain ⟨a, b⟩ := out_of hgl (n := H.length) (by omega)
    exact ⟨_, a, b, cv, rfl, hi2.take (by have := hi.len; omega), hr2.lowT hl⟩
  | false =>
    obtain ⟨a, b⟩ := out_of hgl (n := g1.ι.length) hlen
    have e : ({ (g1.ren downF) with ι := g1.ι.take g1.ι.length } : G) = g1.ren downF := by simp [G.ren]
    rw [e] at a b
    exact ⟨_, a, b, cv, rfl, hi2, hr2⟩
theorem uga {g1 : G} {w1 : World} {v : PV} {cv : Value} {H' : Heap} (hH : g.ι.length = H.length) (hgl : Glob (g.ren upF) w g1 w1) (hi : Inv g1 H' w1) (hl : v.low H.length = true) (hr : Rep g1.ι g1.im v cv) :
    u2h g w (.pan v (H'.take H.length)) (.panicked [{ v := cv, recovered := false }]) w1 := by
  have hlen : g.ι.length ≤ g1.ι.length := uel (g := g.ren upF) hgl
  have hi2 : Inv (g1.ren downF) H' w1 := hi.ren (fun _ _ => rfl)
  obtain ⟨a, b⟩ := out_of hgl (n := H.length) (by omega)
  exact ⟨_, a, b, cv, rfl, hi2.take (by have := hi.len; omega), hr.low hl⟩
def ud5 : ResultVar → Bool
  | .cell _ _ => true
  | _ => false
def cellOf : ResultVar → Option Tmp
  | .tmp _ => none
  | .cell a _ => some a
theorem ubr (fn : Func) : protOf fn = bif fn.results.toList.all ud5 then fn.results.toList.filterMap cellOf else [] := rfl
theorem u72 {fn : Func} (h : protOf fn ≠ []) : ∀ r ∈ fn.results.toList, ∃ a t, r = .cell a t ∧ a ∈ protOf fn := by
  intro r hr
  rw [ubr] at h ⊢
  cases hc : fn.results.toList.all ud5 with
  | false => rw [hc] at h; exact absurd rfl h
  | true =>
    have h1 := List.all_eq_true.mp hc r hr
    cases r with
    | tmp t => cases h1
    | cell a t => exact ⟨a, t, rfl, List.mem_filterMap.mpr ⟨_, hr, rfl⟩⟩
theorem ukn {fn : Func} : ∀ t ∈ protOf fn, t ∈ u5p fn := by
  intro t ht
  rw [ubr] at ht
  cases hc : fn.results.toList.all ud5 with
  | false => rw [hc] at ht; simp at ht
  | true =>
    rw [hc] at ht
    obtain ⟨r, hr, he⟩ := List.mem_filterMap.mp ht
    cases r with
    | tmp s => cases he
    | cell a s =>
      cases he
      exact List.mem_map.mpr ⟨_, hr, rfl⟩
theorem uds {C : CallT} {CD : Option PV → CallT} {LL : Option (Option PV) → List Tmp → (Env → M PV) → LoopT} (hC : CSound P C) (hCD : udp P CD)
    (hL : ∀ fn, LSound CD ⟨P, protOf fn, C, CD, none, resM P fn⟩ (LL none (protOf fn) (resM P fn))) {f : FuncId} {args : List PV} {out : Out PV} (h : fnDen P C CD LL f args H = some out) :
    u2o P f = true ∧ ∀ g w cargs, Inv g H w → ArgsOk g args cargs → Calls P f cargs w (u2h g w out) := by
  unfold fnDen at h
  cases hf : P.funcs[f]? with
  | none => rw [hf] at h; exact (u00 (H := H) h).elim
  | some fn =>
    rw [hf] at h
    dsimp only at h
    cases hb : fn.body with
    | none => rw [hb] at h; exact (u00 (H := H) h).elim
    | some b =>
      rw [hb] at h
      dsimp only at h
      obtain ⟨hn, h⟩ := u01 h
      refine ⟨by unfold u2o; rw [hf]; simp only [hn, hb]; rfl, fun g w cargs hi ha => ?_⟩
      unfold trunc at h
      generalize hm : den _ _ _ _ _ _ H = r at h
      cases r with
      | none => simp at h
      | some out0 =>
        have hret : ∀ g1 v H' cv w1, out0 = .ok v H' → Glob (g.ren upF) w g1 w1 → Inv g1 H' w1 → RepT g1 .res v cv → u2h g w out (.returned cv) w1 := by
          intro g1 v H' cv w1 ho hgl hi1 hr
          subst ho
          simp only [Option.some.injEq] at h
          subst h
          exact uhk hi.len hgl hi1 hr
        have hpan : ∀ g1 v H' cv w1, out0 = .pan v H' → Glob (g.ren upF) w g1 w1 → Inv g1 H' w1 → Rep g1.ι g1.im v cv → u2h g w out (.panicked [{ v := cv, recovered := false }]) w1 := by
          intro g1 v H' cv w1 ho hgl hi1 hr
          subst ho
          have h : (bif v.low H.length then some (Out.pan v (H'.take H.length)) else none) = some out := h
          cases hl : v.low H.length with
          | false => rw [hl] at h; simp at h
          | true =>
            rw [hl] at h
            simp only [cond_true, Option.some.injEq] at h
            subst h
            exact uga hi.len hgl hi1 hl hr
        refine calls_of_wp_defers hf hb ?_
        have hptr : ∀ {env : Env} {a : Act} {g1 : G} {tm : Array Value}, TOk 0 g1 env tm → ∀ t ∈ protOf fn, ∀ id off, env.getD t .undef = .ptr id off → ∃ b, g1.ι[id]? = some b ∧ tm.getD t undef = .pointer (some ⟨b, off, none⟩) := by
          intro env a g1 tm hT t _ id off he
          have := ev_tmp hT t
          rw [he] at this
          exact this.ptr
        refine u2j (c := ⟨P, protOf fn, C, CD, none, resM P fn⟩) (CDN := CD) hC rfl (fun _ _ _ => Le.refl _) (hL fn) b (u5p fn) _ (bodyPostD P fn (u2h g w out)) (g.ren upF) w out0 ukn (fun e => ?_) ?_ _ _ w (g.ren upF) H [] out0 (Glob.refl _ _) ⟨hi.ren (fun _ _ => rfl), uc2 ha, True.intro⟩ hm rfl
        · -- the end of the body
          have fin : ∀ Δ o g1 H1 env a w1, resM P fn env H1 = some o → unw CD Δ o = some out0 → Glob (g.ren upF) w g1 w1 → Sta ⟨P, protOf fn, C, CD, none, resM P fn⟩ g1 H1 env a w1 Δ → Leaves P fn a.tmps (u2h g w out) a.defers .returning w1 := by
            intro Δ o g1 H1 env a w1 hk hu hgl hS
            obtain ⟨v, H', cv, g2, rfl, hrun, hi2, hgl2, hr2⟩ := uld hk hS.inv hS.tok
            have hd := hS.defs
            cases Δ with
            | nil =>
              cases hdf : a.defers with
              | cons δ ds => rw [hdf] at hd; exact hd.elim
              | nil =>
                have ho : out0 = .ok v H' := (Option.some.inj hu).symm
                exact ⟨cv, hrun, hret g2 v H' cv w1 ho (hgl.trans hgl2) hi2 hr2⟩
            | cons d Δ =>
              cases hdf : a.defers with
              | nil => rw [hdf] at hd; exact hd.elim
              | cons δ ds =>
                rw [hdf] at hd
                refine u6v hCD rfl (fun hne => u72 hne) (fun g v H cv w h1 h2 h3 h4 => hret g v H cv w h1 h2 h3 h4) Δ d δ ds (.ok v H') g2 H' w1 .returning ⟨rfl, rfl⟩ hi2 (DefsOk.step hgl2.up.ι hgl2.up.im (fun t _ id off he => he) hd) hu (hgl.trans hgl2) (fun t ht id off he => ?_)
                obtain ⟨b, hb, htv⟩ := hptr (a := a) hS.tok t ht id off he
                exact ⟨b, hgl2.up.ι _ _ hb, htv⟩
          cases e with
          | normal => exact fin
          | ret => exact fin
          | exit id => exact fun Δ o g1 H1 env a w1 hk => (u00 (H := H1) hk).elim
        · -- a panic
          intro Δ v H1 g1 env a w1 cv hu hgl hS hr
          have hd := hS.defs
          show Leaves P fn a.tmps (u2h g w out) a.defers (.panicking [{ v := cv, recovered := false }]) w1
          cases Δ with
          | nil =>
            cases hdf : a.defers with
            | cons δ ds => rw [hdf] at hd; exact hd.elim
            | nil => exact hpan g1 v H1 cv w1 (Option.some.inj hu).symm hgl hS.inv hr
          | cons d Δ =>
            cases hdf : a.defers with
            | nil => rw [hdf] at hd; exact hd.elim
            | cons δ ds =>
              rw [hdf] at hd
              exact u6v hCD rfl (fun hne => u72 hne) (fun g v H cv w h1 h2 h3 h4 => hret g v H cv w h1 h2 h3 h4) Δ d δ ds (.pan v H1) g1 H1 w1 _ ⟨rfl, cv, rfl, hr⟩ hS.inv hd hu hgl (hptr (a := a) hS.tok)
end Go.Proofs.YtiiepllnnjjmaaaDoor.Pi
namespace Go.Proofs.YtiiepllnnjjmaaaDoor.Pi
variable {P : Program} {g : G} {L L' : Owner} {w w' : World} {H : Heap} {x : Nat} {env : Env}
def slotV (env : Env) : PV := env.getD (env.length - 1) .undef
theorem ModeOk.mono {rv : Option PV} {u : FrameMode} (h : ModeOk g rv u) {g' : G} (hι : ∀ (i b : Nat), g.ι[i]? = some b → g'.ι[i]? = some b) (him : ∀ b o v, g.im b o = some v → g'.im b o = some v) : ModeOk g' rv u := by
  cases rv with
  | none => exact h
  | some p => obtain ⟨cv, h1, h2⟩ := h; exact ⟨cv, h1, h2.mono hι him⟩
theorem ua7 {tm : Array Value} (hT : TOk 1 g env tm) : slotV env = .undef ∨ slotV env = .tup [] := by
  have hl := hT.len
  have h1 : env.length - 1 < env.length := by omega
  unfold slotV
  rw [List.getD_eq_getElem?_getD, List.getElem?_eq_getElem h1]
  exact hT.slot (env.length - 1) _ (by omega) (List.getElem?_eq_getElem h1)
theorem u84 {tm : Array Value} (hT : TOk 1 g env tm) (s : Option (Tmp × Option Nat)) : slotV (giveUp env s) = slotV env := by
  have hs := ua7 hT
  unfold slotV at hs ⊢
  rw [u21]
  unfold giveUp
  split
  · rw [u2f]
    split
    · rename_i hh
      rw [hh.1]
      exact u5o hs
    · rfl
  · rw [u2f]
    split
    · rename_i hh
      rw [hh.1]
      exact u46 _ hs
    · rfl
  · rfl
theorem uaj {d : Nat} {v : PV} (hd : d + 1 < env.length) : slotV (env.set d v) = slotV env := by
  unfold slotV
  rw [List.length_set, u2f, if_neg (by omega)]
theorem u6j {pr : List Tmp} {d : Tmp} (h : okDst true pr env (some d) = true) : d + 1 < env.length := by
  unfold okDst at h
  simp only [Bool.and_eq_true, Bool.or_eq_true, Bool.not_eq_true', decide_eq_true_eq] at h
  rcases h.2 with h1 | h1
  · cases h1
  · exact h1
theorem ujm {rc : Option (Option PV)} {pr : List Tmp} {ops : Array Oper} {o : Oper} {v : PV} {tm : Array Value} (hT : TOk 1 g env tm) (hr : u04 o = false) (hd : okDst true pr env o.dst = true) : slotV (put rc ops env o v) = slotV env := by
  have htook : took rc o (giveUp env (given ops o)) = giveUp env (given ops o) := by
    unfold took
    simp [hr]
  unfold Pi.put
  rw [htook]
  cases hdst : o.dst with
  | none => exact u84 hT _
  | some d =>
    rw [hdst] at hd
    have h1 := u6j hd
    show slotV ((giveUp env (given ops o)).set d v) = _
    rw [uaj (by rw [u21]; exact h1)]
    exact u84 hT _
structure StaD (c : Ctx) (rv : Option PV) (u : FrameMode) (g : G) (H : Heap) (env : Env) (a : Act) (w : World) (m : FrameMode) : Prop where
  sta : Sta c g H env a w []
  mode : ModeOk g rv u
  now : m = u1v (slotV env) u
  defs : a.defers = []
theorem u9g (a : Act) (d : Option Tmp) (v : Value) : (a.put d v).defers = a.defers := by cases d <;> rfl
theorem uku {c : Ctx} {a : Act} (h : a.defers = []) : DefsOk c g env [] a.defers := by rw [h]; exact True.intro
theorem TOk.took {tm : Array Value} (h : TOk 1 g env tm) : TOk 1 g (env.set (env.length - 1) (.tup [])) tm := by
  have hl := h.len
  refine ⟨h.one, by simp [hl], fun t v p hv hp => ?_, fun t p ht hp => ?_⟩
  · have h1 := (Array.getElem?_eq_some_iff.mp hv).1
    rw [List.getElem?_set_ne (by omega)] at hp
    exact h.val t v p hv hp
  · by_cases e : env.length - 1 = t
    · subst e
      rw [List.getElem?_set_self (by omega)] at hp
      cases hp
      exact .inr rfl
    · rw [List.getElem?_set_ne e] at hp
      exact h.slot t p ht hp
theorem uji {c : Ctx} {rv : Option PV} {u m : FrameMode} {a : Act} {ops : Array Oper} {o : Oper} {v : PV} {cv : Value} (hrc : c.rc = some rv) (hS : StaD c rv u g H env a w m) (hrec : u04 o = true) (hgv : given ops o = none)
    (hd : okDst true c.prot env o.dst = true) (hv : ∀ L, RepT g L v cv) : Sta c g H (put c.rc ops env o v) (a.put o.dst cv) w [] ∧ slotV (put c.rc ops env o v) = .tup [] := by
  have hT : TOk 1 g env a.tmps := by
    have := hS.sta.tok
    rw [hrc] at this
    exact this
  have hl := hT.len
  have htook : took c.rc o (giveUp env (given ops o)) = env.set (env.length - 1) (.tup []) := by
    rw [hgv, hrc]
    unfold took giveUp
    simp [hrec]
  have hs : slotV (env.set (env.length - 1) (.tup [])) = .tup [] := by
    unfold slotV
    rw [List.length_set, u2f, if_pos ⟨rfl, by omega⟩]
  have hx : xOf c.rc = 1 := by rw [hrc]; rfl
  refine ⟨⟨hS.sta.inv, ?_, by rw [u9g]; exact uku (by rw [hS.defs])⟩, ?_⟩
  · unfold Pi.put
    rw [htook, hx]
    cases hdst : o.dst with
    | none => exact hT.took
    | some d =>
      rw [hdst] at hd
      exact hT.took.put (.inr (by rw [List.length_set]; exact u6j hd)) (hv _)
  · unfold Pi.put
    rw [htook]
    cases hdst : o.dst with
    | none => exact hs
    | some d =>
      rw [hdst] at hd
      show slotV ((env.set (env.length - 1) (.tup [])).set d v) = _
      rw [uaj (by rw [List.length_set]; exact u6j hd)]
      exact hs
theorem u5x (v : PV) : u1v v .returning = .returning := by
  unfold u1v
  split <;> first | rfl | (rename_i h; cases h) | rfl
def LeafD (c : Ctx) (rv : Option PV) (u : FrameMode) (c0 : Frame) (cs0 : List Frame) (g0 : G) (w0 : World) (out : Out PV) (k : Env → M PV) (Q : Act → List Frame → World → Prop) : Prop :=
  ∀ env a w g H m, Glob g0 w0 g w → StaD c rv u g H env a w m → k env H = some out → Q a ({ c0 with mode := m } :: cs0) w
variable {c : Ctx} {rv : Option PV} {u : FrameMode} {c0 : Frame} {cs0 : List Frame} {g0 : G} {w0 : World} {v0 : PV} {H0 : Heap}
theorem u57 (hC : CSound c.P c.C) (hrc : c.rc = some rv) {ops : Array Oper} {k : Env → M PV} {Q : Exit → Act → List Frame → World → Prop} (hleaf : LeafD c rv u c0 cs0 g0 w0 (.ok v0 H0) k (Q .normal)) :
    ∀ (l : List Oper) (i : Nat) (env : Env) (a : Act) (w : World) (g : G) (H : Heap) (m : FrameMode), (∀ j, l[j]? = ops[i + j]?) → (∀ o ∈ l, u4m o = true) → Glob g0 w0 g w → StaD c rv u g H env a w m →
      dOps c ops l env k H = some (.ok v0 H0) → wpOpsS c.P ops Q (List.range' i l.length) a ({ c0 with mode := m } :: cs0) w
  | [], i, env, a, w, g, H, m, hl, hs, hgl, hS, h => hleaf env a w g H m hgl hS h
  | o :: r, i, env, a, w, g, H, m, hl, hs, hgl, hS, h => by
    have hr : ∀ j, r[j]? = ops[i + 1 + j]? := fun j => by
      have := hl (j + 1)
      rw [List.getElem?_cons_succ] at this
      rw [this]
      congr 1
      omega
    have ho : ops[i]? = some o := by
      have := hl 0
      simpa using this.symm
    have hso := hs o List.mem_cons_self
    have hsr : ∀ o ∈ r, u4m o = true := fun q hq => hs q (List.mem_cons_of_mem _ hq)
    rw [List.length_cons, u8b]
    simp only [wpOpsS, ho]
    rw [u3t] at h
    obtain ⟨hok, h⟩ := u01 h
    have hok' : okDst true c.prot env o.dst = true := by
      rw [hrc] at hok
      exact hok
    have hT : TOk 1 g env a.tmps := by
      have := hS.sta.tok
      rw [hrc] at this
      exact this
    have h : M.bind (gval c.P c.C c.rc ops env o) (fun v => dOps c ops r (put c.rc ops env o v) k) H = some (.ok v0 H0) := by
      obtain ⟨dst, op, ty, pos, after, guard⟩ := o
      cases op <;> first | exact h | (simp [u4m] at hso)
    unfold M.bind at h
    cases hg : gval c.P c.C c.rc ops env o H with
    | none => rw [hg] at h; simp at h
    | some o1 =>
      rw [hg] at h
      cases o1 with
      | pan v H1 => simp at h
      | ok v H1 =>
        have hnx : dOps c ops r (put c.rc ops env o v) k H1 = some (.ok v0 H0) := h
        clear h
        cases hrec : u04 o with
        | false =>
          have hst := ue1 (Q := fun e a w => Q e a ({ c0 with mode := m } :: cs0) w) (next := fun a w => wpOpsS c.P ops Q (List.range' (i + 1) r.length) a ({ c0 with mode := m } :: cs0) w)
            hC (.inr hrec) hS.sta hok hg (fun v' H1' g' a' w' he hgl' hS' => by
              cases he
              have hda : a'.defers = [] := by
                have := hS'.defs
                cases hd : a'.defers with
                | nil => rfl
                | cons x y => rw [hd] at this; exact this.elim
              refine u57 hC hrc hleaf r (i + 1) _ a' w' g' H1 m hr hsr (hgl.trans hgl') ⟨hS', hS.mode.mono hgl'.up.ι hgl'.up.im, ?_, hda⟩ hnx
              rw [ujm hT hrec hok']
              exact hS.now) (fun v' H1' g' w' cv he => by cases he)
          split
          · rename_i hw
            rw [if_pos hw] at hst
            unfold Oper.wp at hst
            generalize (execOp a.eval o).run c.P w = q at hst ⊢
            split
            · exact (show False from hst).elim
            · exact hst
          · rename_i hw
            rw [if_neg hw] at hst
            exact hst
        | true =>
          obtain ⟨dst, op, ty, pos, after, guard⟩ := o
          cases op with
          | call cl =>
            obtain ⟨callee, args, tys⟩ := cl
            cases callee with
            | builtin b =>
              cases b with
              | recover =>
                have hgd : guard = none := by
                  cases guard with
                  | none => rfl
                  | some q => simp [u4m, hrec] at hso
                subst hgd
                have hv : v = recV c.rc env ∧ H1 = H := by
                  have hg2 : opVal c.P c.C c.rc ops env ⟨dst, .call ⟨.builtin .recover, args, tys⟩, ty, pos, after, none⟩ H = some (.ok v H1) := hg
                  rw [hrc] at hg2 ⊢
                  have hg3 : M.pure (recV (some rv) env) H = some (.ok v H1) := hg2
                  simp only [M.pure, Option.some.injEq, Out.ok.injEq] at hg3
                  exact ⟨hg3.1.symm, hg3.2.symm⟩
                obtain ⟨rfl, rfl⟩ := hv
                have hrun : (execOp a.eval ⟨dst, .call ⟨.builtin .recover, args, tys⟩, ty, pos, after, none⟩).run c.P w = .ok .recover w := rfl
                have hw : Region.wanted ⟨dst, .call ⟨.builtin .recover, args, tys⟩, ty, pos, after, none⟩ (yielded ops a.tmps) = true := rfl
                rw [if_pos hw, hrun]
                dsimp only
                have fin : ∀ (cv : Value) (m' : FrameMode), (∀ L, RepT g L (recV c.rc env) cv) → m' = u1v (.tup []) u → wpOpsS c.P ops Q (List.range' (i + 1) r.length) (a.put dst cv) ({ c0 with mode := m' } :: cs0) w := by
                  intro cv m' hv hm
                  obtain ⟨h1, h2⟩ := uji (ops := ops) hrc hS hrec rfl hok' hv
                  exact u57 hC hrc hleaf r (i + 1) _ _ w g H1 m' hr hsr hgl ⟨h1, hS.mode, by rw [h2]; exact hm, by rw [u9g]; exact hS.defs⟩ hnx
                have hnil : ∀ L, RepT g L .niliface .nilIface := fun L => rT (.flat .niliface) _
                have hmode := hS.mode
                have hnow := hS.now
                cases rv with
                | none =>
                  have hu : u = .returning := hmode
                  subst hu
                  rw [u5x] at hnow
                  subst hnow
                  refine fin .nilIface _ (fun L => ?_) (u5x _).symm
                  rw [hrc]
                  exact hnil L
                | some p =>
                  obtain ⟨cv, rfl, hp⟩ := hmode
                  rcases ua7 hT with hsl | hsl
                  · rw [hsl] at hnow
                    subst hnow
                    refine fin cv _ (fun L => ?_) rfl
                    have : recV c.rc env = p := by
                      rw [hrc]
                      unfold recV
                      show (match slotV env with | .tup [] => PV.niliface | _ => p) = p
                      rw [hsl]
                    rw [this]
                    exact rT hp L
                  · rw [hsl] at hnow
                    subst hnow
                    refine fin .nilIface _ (fun L => ?_) rfl
                    have : recV c.rc env = .niliface := by
                      rw [hrc]
                      unfold recV
                      show (match slotV env with | .tup [] => PV.niliface | _ => p) = _
                      rw [hsl]
                    rw [this]
                    exact hnil L
              | _ => cases hrec
            | _ => cases hrec
          | _ => cases hrec
theorem uhu {rc : Option (Option PV)} {pr : List Tmp} {ops : Array Oper} {o : Oper} {v : PV} (hs : slotV env = .undef ∨ slotV env = .tup []) (hr : u04 o = false) (hd : okDst true pr env o.dst = true) : slotV (put rc ops env o v) = slotV env := by
  have hg : slotV (giveUp env (given ops o)) = slotV env := by
    unfold slotV at hs ⊢
    rw [u21]
    unfold giveUp
    split
    · rw [u2f]
      split
      · rename_i hh
        rw [hh.1]
        exact u5o hs
      · rfl
    · rw [u2f]
      split
      · rename_i hh
        rw [hh.1]
        exact u46 _ hs
      · rfl
    · rfl
  have htook : took rc o (giveUp env (given ops o)) = giveUp env (given ops o) := by
    unfold took
    simp [hr]
  unfold Pi.put
  rw [htook]
  cases hdst : o.dst with
  | none => exact hg
  | some d =>
    rw [hdst] at hd
    have h1 := u6j hd
    show slotV ((giveUp env (given ops o)).set d v) = _
    rw [uaj (by rw [u21]; exact h1)]
    exact hg
theorem u3b (hC : CSound c.P c.C) (hrc : c.rc = some rv) {LL : LoopT} :
    ∀ (co : Code) (af : List Tmp) (k : K) (Q : Exit → Act → List Frame → World → Prop), u2l co = true → (∀ e, LeafD c rv u c0 cs0 g0 w0 (.ok v0 H0) (k e) (Q e.to)) →
      ∀ env a w g H m, Glob g0 w0 g w → StaD c rv u g H env a w m → den c LL af co env k H = some (.ok v0 H0) → co.wpS c.P Q a ({ c0 with mode := m } :: cs0) w
  | .skip, af, k, Q, hs, hk, env, a, w, g, H, m, hgl, hS, h => wpS_of_wp (wp_skip (hk .normal env a w g H m hgl hS h))
  | .ret, af, k, Q, hs, hk, env, a, w, g, H, m, hgl, hS, h => wpS_of_wp (wp_ret (hk .ret env a w g H m hgl hS h))
  | .region id ops false, af, k, Q, hs, hk, env, a, w, g, H, m, hgl, hS, h => by
    refine wpS_region ?_
    have hs' : ∀ o ∈ ops.toList, u4m o = true := fun o ho => List.all_eq_true.mp hs o ho
    have := u57 (Q := Q) hC hrc (hk .normal) ops.toList 0 env a w g H m (fun j => by simp) hs' hgl hS h
    rwa [List.range_eq_range', ← Array.length_toList]
  | .region id ops true, af, k, Q, hs, hk, env, a, w, g, H, m, hgl, hS, h => by
    have h : guardM (c.P.follows .mixedOrders && commB ops) (bif modeA ops && (c.rc.isNone && c.prot.isEmpty) then dOpsAA c ops env (k .normal) else bif modeP ops && c.rc.isNone then dOpsP c ops env (k .normal) else bif ops.any u0t || c.rc.isSome then dOpsW c ops 0 [] ops.toList env (k .normal) else dOpsN c ops ops.toList env (k .normal)) H = some (.ok v0 H0) := h
    obtain ⟨hg, h⟩ := u01 h
    simp only [Bool.and_eq_true] at hg
    have hbr : (ops.any u0t || c.rc.isSome) = true := by rw [hrc]; simp
    have hbp : (modeP ops && c.rc.isNone) = false := by rw [hrc]; simp
    have hba : (modeA ops && (c.rc.isNone && c.prot.isEmpty)) = false := by rw [hrc]; simp
    rw [hba, hbp, hbr] at h
    have hT : TOk 1 g env a.tmps := by
      have := hS.sta.tok
      rw [hrc] at this
      exact this
    obtain ⟨e', H', L, l1, _, l3, l4, hk'⟩ := udl ops.toList [] 0 env H (fun j => by simp) h
    refine wpS_of_wp (wp_region_any hg.1 (u39 (c := c) (Q := fun e a w => Q e a ({ c0 with mode := m } :: cs0) w) hC hg.2 (R := fun l e K => slotV e = slotV env ∧ RW c ops e' H' l e K) (Δ := []) (g0 := g) (w0 := w)
      (fun A i B oi e K hi ha hnb hR => ?_) (fun e K g' a' w' hR hgl' hS' => ?_) ops.size _ env H a _ g (by simp) ?_ ?_ ?_ (u36 g w) hS.sta.drew))
    · obtain ⟨r1, r2⟩ := hR
      obtain ⟨h1, v, H1, h2, h3⟩ := RW.front hg.2 A i B oi e K hi ha hnb r2
      refine ⟨h1, v, H1, h2, ?_, h3⟩
      rw [hrc] at h1
      rw [uhu (by rw [r1]; exact ua7 hT) (u16 hg.2 hi).1 h1, r1]
    · obtain ⟨r1, r2⟩ := hR
      obtain ⟨rfl, rfl⟩ := r2.nil
      refine hk .normal e a' w' g' K m (hgl.trans hgl') ⟨hS', hS.mode.mono hgl'.up.ι hgl'.up.im, by rw [r1]; exact hS.now, ?_⟩ hk'
      have := hS'.defs
      cases hd : a'.defers with
      | nil => rfl
      | cons x y => rw [hd] at this; exact this.elim
    · exact Nat.le_trans (List.length_filter_le _ _) (by simp)
    · intro j i hj hl
      simp [Array.getD_eq_getD_getElem?, hj] at hl
    · refine ⟨rfl, ?_⟩
      have hall : restOf ops (Array.replicate ops.size false) = List.range' 0 ops.toList.length := by
        unfold restOf
        rw [List.filter_eq_self.mpr, List.range_eq_range', Array.length_toList]
        intro i hi
        simp [Array.getD_eq_getD_getElem?, List.mem_range.mp hi]
      rw [hall]
      exact ⟨L, l1, l3, l4⟩
  | .seq y z, af, k, Q, hs, hk, env, a, w, g, H, m, hgl, hS, h => by
    have hs1 : u2l y = true ∧ u2l z = true := by simpa [u2l] using hs
    refine wpS_seq (u3b hC hrc y ((rw z).1 ++ af) _ (Exit.thenS (z.wpS c.P Q) Q) hs1.1 (fun e => ?_) env a w g H m hgl hS h)
    cases e with
    | normal =>
      intro env a w g H m hgl hS h
      have h : (bif c.rc.isNone && joinB y then LL af z (keep ((rw z).1 ++ af) env) k else den c LL af z env k) H = some (.ok v0 H0) := h
      rw [hrc] at h
      exact u3b hC hrc z af k Q hs1.2 hk env a w g H m hgl hS h
    | exit id => exact hk (.exit id)
    | ret => exact hk .ret
  | .cond q y z, af, k, Q, hs, hk, env, a, w, g, H, m, hgl, hS, h => by
    have hs1 : u2l y = true ∧ u2l z = true := by simpa [u2l] using hs
    have rq := ev_rep hS.sta.inv hS.sta.tok q
    have h : condM (ev env q) (den c LL af y env k) (den c LL af z env k) H = some (.ok v0 H0) := h
    unfold condM at h
    cases hv : ev env q with
    | bool b =>
      rw [hv] at h rq
      have hq := rq.bool
      dsimp only at h
      refine wpS_cond hq ?_
      cases b
      · exact u3b hC hrc z af k Q hs1.2 hk env a w g H m hgl hS h
      · exact u3b hC hrc y af k Q hs1.1 hk env a w g H m hgl hS h
    | _ => (rw [hv] at h; exact (u00 (H := H) h).elim)
theorem TOk.slotted {tm : Array Value} (h : TOk 0 g env tm) : TOk 1 g (env ++ [.undef]) tm := by
  have hl := h.len
  refine ⟨Nat.le_refl 1, by simp [hl], fun t v p hv hp => ?_, fun t p ht hp => ?_⟩
  · have h1 := (Array.getElem?_eq_some_iff.mp hv).1
    rw [List.getElem?_append_left (by omega)] at hp
    exact h.val t v p hv hp
  · rw [List.getElem?_append_right (by omega)] at hp
    have := List.mem_of_getElem? hp
    exact .inl (by simpa using this)
theorem ug7 {m : M PV} {o : Out PV} (h : noPan m H = some o) : ∃ v H', o = .ok v H' ∧ m H = some (.ok v H') := by
  unfold noPan at h
  split at h
  · rename_i v H' hm
    cases h
    exact ⟨v, H', rfl, hm⟩
  · cases h
theorem uk5 {m : M PV} {v : PV} {H' : Heap} (h : trunc m H = some (.ok v H')) : ∃ H1, m H = some (.ok v H1) ∧ H' = bif v.low H.length then H1.take H.length else H1 := by
  unfold trunc at h
  split at h
  · cases h
  · rename_i v1 H1 hm
    cases h
    exact ⟨H1, hm, rfl⟩
  · rename_i v1 H1 hm
    cases hl : v1.low H.length <;> rw [hl] at h <;> cases h
theorem uc8 {C : CallT} {CD : Option PV → CallT} {LL : Option (Option PV) → List Tmp → (Env → M PV) → LoopT} (hC : CSound P C) {rv : Option PV} {f : FuncId} {args : List PV} {out : Out PV} (h : fnDenD P C CD LL rv f args H = some out) :
    u2o P f = true ∧ ∃ v H', out = .ok v H' ∧ ∀ g w cargs u, Inv g H w → ArgsOk g args cargs → ModeOk g rv u →
      CallsD P f cargs u w fun e u' w' => ∃ g' cv, Glob g w g' w' ∧ Grow u2z g g' ∧ e = .returned cv ∧ Inv g' H' w' ∧ u' = u1v v u := by
  unfold fnDenD at h
  cases hf : P.funcs[f]? with
  | none => rw [hf] at h; exact (u00 (H := H) h).elim
  | some fn =>
    rw [hf] at h
    dsimp only at h
    cases hb : fn.body with
    | none => rw [hb] at h; exact (u00 (H := H) h).elim
    | some b =>
      rw [hb] at h
      dsimp only at h
      obtain ⟨hn, h⟩ := u01 h
      simp only [Bool.and_eq_true] at hn
      obtain ⟨hsb, hre, hn⟩ := hn
      obtain ⟨v, H', rfl, h2⟩ := ug7 h
      obtain ⟨H1, h3, rfl⟩ := uk5 h2
      refine ⟨by unfold u2o; rw [hf]; simp only [hn, hb]; rfl, v, _, rfl, fun g w cargs u hi ha hm => ?_⟩
      refine callsD_of_wpS hf hb fun c₀ cs hu => ?_
      have hend : ∀ (env : Env) (a : Act) (w1 : World) (g1 : G) (H2 : Heap) (m : FrameMode), Glob (g.ren upF) w g1 w1 → StaD ⟨P, protOf fn, C, CD, some rv, resM P fn⟩ rv u g1 H2 env a w1 m → M.pure (env.getD (env.length - 1) .undef) H2 = some (.ok v H1) →
          a.defers = [] ∧ ∃ u', ({ c₀ with mode := m } : Frame) :: cs = { c₀ with mode := u' } :: cs ∧ ∃ vv, (results fn a.tmps).run P w1 = .ok vv w1 ∧ ∃ g' cv, Glob g w g' w1 ∧ Grow u2z g g' ∧ Ending.returned vv = .returned cv ∧ Inv g' (bif v.low H.length then H1.take H.length else H1) w1 ∧ u' = u1v v u := by
        intro env a w1 g1 H2 m hgl hS hp
        simp only [M.pure, Option.some.injEq, Out.ok.injEq] at hp
        obtain ⟨hv, rfl⟩ := hp
        have hrs : (results fn a.tmps).run P w1 = .ok (.tuple #[]) w1 := by
          have he : fn.results.toList = [] := by
            have : fn.results = #[] := by simpa using hre
            rw [this]
          have := u7t (P := P) (w := w1) (fn := fn) (tm := a.tmps) (vs := []) (by rw [he]; rfl)
          simpa using this
        have hsl : v = .undef ∨ v = .tup [] := by
          have := ua7 (hS.sta.tok : TOk 1 g1 env a.tmps)
          rw [← hv]
          exact this
        have hrep : RepT g1 .res v (.tuple #[]) := by
          rcases hsl with rfl | rfl
          · exact .one (.undef _)
          · exact .tup rfl fun j p q hp => by simp at hp
        obtain ⟨g', h1, h2, cv, h3, h4, h5⟩ := uhk hi.len hgl hS.sta.inv hrep
        refine ⟨hS.defs, m, rfl, _, hrs, g', cv, h1, h2, h3, h4, ?_⟩
        rw [hS.now, ← hv]
        rfl
      have hst : StaD ⟨P, protOf fn, C, CD, some rv, resM P fn⟩ rv u (g.ren upF) H (args ++ List.replicate (fn.ntmps - args.length) .undef ++ [.undef]) { tmps := cargs ++ Array.replicate (fn.ntmps - cargs.size) undef, defers := [] } w u := by
        refine ⟨⟨hi.ren (fun _ _ => rfl), (uc2 ha).slotted, True.intro⟩, hm.mono (fun _ _ h => h) (fun _ _ _ h => h), ?_, rfl⟩
        have : slotV (args ++ List.replicate (fn.ntmps - args.length) .undef ++ [.undef]) = .undef := by
          unfold slotV
          simp
        rw [this]
        unfold u1v
        split <;> first | rfl | (rename_i h; cases h)
      have := u3b (c := ⟨P, protOf fn, C, CD, some rv, resM P fn⟩) (u := u) (c0 := c₀) (cs0 := cs) (g0 := g.ren upF) (w0 := w) hC rfl b (fn.ntmps :: u5p fn) _ (bodyPostS P fn c₀ cs fun e u' w' => ∃ g' cv, Glob g w g' w' ∧ Grow u2z g g' ∧ e = .returned cv ∧ Inv g' (bif v.low H.length then H1.take H.length else H1) w' ∧ u' = u1v v u) hsb (fun e => ?_) _ _ w (g.ren upF) H u (Glob.refl _ _) hst h3
      · have e : ({ c₀ with mode := u } : Frame) = c₀ := by rw [← hu]
        rw [e] at this
        exact this
      · cases e with
        | normal => exact fun env a w g H m hgl hS h => hend env a w g H m hgl hS h
        | ret => exact fun env a w g H m hgl hS h => hend env a w g H m hgl hS h
        | exit id => exact fun env a w g H m hgl hS h => (u00 (H := H) h).elim
end Go.Proofs.YtiiepllnnjjmaaaDoor.Pi
namespace Go.Proofs.YtiiepllnnjjmaaaDoor.Pi
variable {P : Program} {X : ExtT} {H : Heap}
def XSound (P : Program) (X : ExtT) : Prop :=
  ∀ f m, X f = some m → ∀ args H out, m args H = some out → u2o P f = true ∧ ∀ g w cargs, Inv g H w → ArgsOk g args cargs → Calls P f cargs w (u2h g w out)
theorem uhe (hX : XSound P X) (n : Nat) : CSound P (sem P X n).C ∧ udp P (sem P X n).CD := by
  induction n using Nat.strongRecOn with
  | _ n ih =>
    cases n with
    | zero => exact ⟨fun f args H out h => (u00 (H := H) h).elim, fun rv f args H out h => (u00 (H := H) h).elim⟩
    | succ n =>
      have hn := ih n (Nat.lt_succ_self n)
      refine ⟨fun f args H out h => ?_, fun rv f args H out h => uc8 hn.1 h⟩
      have h : (match X f with | some m => m args | none => fnDen P (sem P X n).C (sem P X n).CD (sem P X n).L f args) H = some out := h
      cases hf : X f with
      | some m => rw [hf] at h; exact hX f m hf args H out h
      | none =>
        rw [hf] at h
        exact uds hn.1 hn.2 (fun fn => ugq n (fun m hm => (ih m (by omega)).1) _ _ _ (fun m hm r f a => uib m r f a (by omega)) n (Nat.le_refl n)) h
theorem udr (hX : XSound P X) : CSound P (callW P X) := by
  intro f args H out h
  obtain ⟨n, hn⟩ := ((uae P X f args).lim H out).mp h
  exact (uhe hX n).1 f args H out hn
theorem noX : XSound P (fun _ => none) := fun f m h => by cases h
end Go.Proofs.YtiiepllnnjjmaaaDoor.Pi
namespace Go.Proofs.YtiiepllnnjjmaaaDoor.Pi
noncomputable def kAt (c : Ctx) (L : LoopT) : List Nat → List Tmp → Code → K → List Tmp × Code × K
  | [], af, co, k => (af, co, k)
  | 0 :: p, af, .seq a b, k => kAt c L p ((rw b).1 ++ af) a fun
    | .normal, env' => bif c.rc.isNone && joinB a then L af b (keep ((rw b).1 ++ af) env') k else den c L af b env' k
    | e, env' => k e env'
  | _ :: p, af, .seq a b, k => kAt c L p af b k
  | 0 :: p, af, .cond _ a b, k => kAt c L p af a k
  | _ :: p, af, .cond _ a b, k => kAt c L p af b k
  | _ :: p, af, .block id b, k => kAt c L p af b fun
    | .exit i, env' => bif i == id then k .normal env' else k (.exit i) env'
    | e, env' => k e env'
  | _ :: p, af, .loop b, k => kAt c L p (alive af b) b fun
    | .normal, env' => L af (.loop b) (keep (alive af b) env') k
    | e, env' => k e env'
  | _, af, co, k => (af, co, k)
section
variable (P : Program) (X : ExtT)
noncomputable def kOf (f : FuncId) (p : List Nat) : List Tmp × Code × K :=
  match P.funcs[f]? with
  | some fn => match fn.body with
    | some b => kAt (ctxW P X none (protOf fn) (resM P fn)) (loopW P X none (protOf fn) (resM P fn)) p (u5p fn) b fun
      | .exit _, _ => M.fail
      | _, env => resM P fn env
    | none => ([], .skip, fun _ _ => M.fail)
  | none => ([], .skip, fun _ _ => M.fail)
noncomputable def ctxOf (f : FuncId) : Ctx :=
  match P.funcs[f]? with
  | some fn => ctxW P X none (protOf fn) (resM P fn)
  | none => ctxW P X none [] (fun _ => M.fail)
noncomputable def atP (f : FuncId) (p : List Nat) (env : Env) : M PV :=
  loopW P X none (ctxOf P X f).prot (ctxOf P X f).res (kOf P X f p).1 (kOf P X f p).2.1 env (kOf P X f p).2.2
noncomputable def stepP (f : FuncId) (p : List Nat) (env : Env) : M PV :=
  go1 (ctxW P X none (ctxOf P X f).prot (ctxOf P X f).res) (loopW P X none (ctxOf P X f).prot (ctxOf P X f).res) (kOf P X f p).1 (kOf P X f p).2.1 env (kOf P X f p).2.2
theorem u2g (f : FuncId) (p : List Nat) (env : Env) : atP P X f p env = stepP P X f p env := uk9 P X none _ _ _ _ _ _
def mkEnv : Nat → Nat → List (Nat × PV) → Env
  | 0, _, _ => []
  | n + 1, i, (j, v) :: r => bif i == j then v :: mkEnv n (i + 1) r else .undef :: mkEnv n (i + 1) ((j, v) :: r)
  | n + 1, i, [] => .undef :: mkEnv n (i + 1) []
end
end Go.Proofs.YtiiepllnnjjmaaaDoor.Pi
namespace Go.Proofs.YtiiepllnnjjmaaaDoor.Pi
theorem nrfl {γ : Sort _} {a b : γ} (h : a = b) : a = b := h
variable {α β : Type} {H : Heap} {k : IntKind} {a b n m : Int} {x y : PV} {ek : EqK}
@[simp] theorem uap : strip (.int k n) = .int k n := nrfl rfl
@[simp] theorem u8v {t : Bool} : strip (.bool t) = .bool t := nrfl rfl
@[simp] theorem ucz {s : ByteArray} : strip (.str s) = .str s := nrfl rfl
@[simp] theorem u7r {o z : Bool} {sz : Nat} {xs : List PV} : strip (.slice o z sz xs) = .slice false z sz xs := nrfl rfl
@[simp] theorem uau {i o : Nat} : strip (.ptr i o) = .ptr i o := nrfl rfl
@[simp] theorem ubl {cs : List PV} : strip (.agg cs) = .agg cs := nrfl rfl
@[simp] theorem u9i {cs : List PV} : strip (.elem cs) = .elem cs := nrfl rfl
@[simp] theorem uco : strip .nil = .nil := nrfl rfl
@[simp] theorem u4w : strip .niliface = .niliface := nrfl rfl
@[simp] theorem u85 {t : TypeId} {v : PV} : strip (.iface t v) = .iface t v := nrfl rfl
@[simp] theorem ufs {f : FuncId} {u v : List PV} : strip (.fn f u v) = .fn f u v := nrfl rfl
@[simp] theorem u6t : strip .undef = .undef := nrfl rfl
@[simp] theorem ubb {vs : List PV} : strip (.tup vs) = .tup (vs.map stripC) := nrfl rfl
@[simp] theorem u1z : stripC (.int k n) = .int k n := nrfl rfl
@[simp] theorem u7d {t : Bool} : stripC (.bool t) = .bool t := nrfl rfl
@[simp] theorem u9l {s : ByteArray} : stripC (.str s) = .str s := nrfl rfl
@[simp] theorem u62 {o z : Bool} {sz : Nat} {xs : List PV} : stripC (.slice o z sz xs) = .slice false z sz xs := nrfl rfl
@[simp] theorem u8z {i o : Nat} : stripC (.ptr i o) = .ptr i o := nrfl rfl
@[simp] theorem u8u {cs : List PV} : stripC (.agg cs) = .agg cs := nrfl rfl
@[simp] theorem u9n : stripC .nil = .nil := nrfl rfl
@[simp] theorem u3u : stripC .niliface = .niliface := nrfl rfl
@[simp] theorem u63 {t : TypeId} {v : PV} : stripC (.iface t v) = .iface t v := nrfl rfl
@[simp] theorem ubt {f : FuncId} {u v : List PV} : stripC (.fn f u v) = .fn f u v := nrfl rfl
@[simp] theorem bi_add : bi .add ek (.int k a) (.int k b) = M.pure (.int k (k.wrap (a + b))) := nrfl (by cases k <;> rfl)
@[simp] theorem bi_sub : bi .sub ek (.int k a) (.int k b) = M.pure (.int k (k.wrap (a - b))) := nrfl (by cases k <;> rfl)
@[simp] theorem bi_mul : bi .mul ek (.int k a) (.int k b) = M.pure (.int k (k.wrap (a * b))) := nrfl (by cases k <;> rfl)
@[simp] theorem bi_eql : bi .eql ek (.int k a) (.int k b) = M.pure (.bool (a == b)) := nrfl (by cases k <;> rfl)
@[simp] theorem bi_neq : bi .neq ek (.int k a) (.int k b) = M.pure (.bool (a != b)) := nrfl (by cases k <;> rfl)
@[simp] theorem bi_lss : bi .lss ek (.int k a) (.int k b) = M.pure (.bool (decide (a < b))) := nrfl (by cases k <;> rfl)
@[simp] theorem bi_leq : bi .leq ek (.int k a) (.int k b) = M.pure (.bool (decide (a ≤ b))) := nrfl (by cases k <;> rfl)
@[simp] theorem bi_gtr : bi .gtr ek (.int k a) (.int k b) = M.pure (.bool (decide (a > b))) := nrfl (by cases k <;> rfl)
@[simp] theorem bi_geq : bi .geq ek (.int k a) (.int k b) = M.pure (.bool (decide (a ≥ b))) := nrfl (by cases k <;> rfl)
@[simp] theorem uiz {s t : ByteArray} : bi .eql ek (.str s) (.str t) = M.pure (.bool (s.toList == t.toList)) := nrfl rfl
@[simp] theorem uit {s t : ByteArray} : bi .neq ek (.str s) (.str t) = M.pure (.bool (!(s.toList == t.toList))) := nrfl rfl
@[simp] theorem uj0 {s t : Bool} : bi .eql .bool (.bool s) (.bool t) = M.pure (.bool (s == t)) := nrfl rfl
@[simp] theorem uja {s t : Bool} : bi .neq .bool (.bool s) (.bool t) = M.pure (.bool (!(s == t))) := nrfl rfl
@[simp] theorem un_not {t : Bool} : un .not (.bool t) = M.pure (.bool (!t)) := nrfl rfl
@[simp] theorem uby {o z : Bool} {sz : Nat} {xs : List PV} : lnL (.slice o z sz xs) = M.pure (.int .i64 xs.length) := nrfl rfl
@[simp] theorem uj6 {s : ByteArray} : lnS (.str s) = M.pure (.int .i64 s.size) := nrfl rfl
@[simp] theorem mx_int : mx (.int k a) (.int k b) = M.pure (.int k (if b > a then b else a)) := nrfl (by cases k <;> rfl)
@[simp] theorem mn_int : mn (.int k a) (.int k b) = M.pure (.int k (if b < a then b else a)) := nrfl (by cases k <;> rfl)
@[simp] theorem cv_int {o : Bool} {j : IntKind} : cv (.int k) o (.int j n) = M.pure (.int k (k.wrap n)) := nrfl rfl
@[simp] theorem ulp {v : PV} {r : List PV} : ex 0 (.tup (v :: r)) = M.pure v := nrfl rfl
@[simp] theorem ulq {u v : PV} {r : List PV} : ex 1 (.tup (u :: v :: r)) = M.pure v := nrfl rfl
@[simp] theorem ulo {t u v : PV} {r : List PV} : ex 2 (.tup (t :: u :: v :: r)) = M.pure v := nrfl rfl
end Go.Proofs.YtiiepllnnjjmaaaDoor.Pi
namespace Go.Proofs.YtiiepllnnjjmaaaDoor.Pi
variable {P : Program} {X : ExtT}
def gOf (im : Nat → Nat → Option Value) : G := ⟨[], im, fun _ => none⟩
theorem ukw {im : Nat → Nat → Option Value} {w : World} (him : ∀ b o v, im b o = some v → w.cell? ⟨b, o, none⟩ = some v) (hg : GlobOk im) : Inv (gOf im) [] w :=
  ⟨rfl, fun i j b h => by simp [gOf] at h, him, fun b L s h => by simp [gOf] at h, fun id b y h => by simp [gOf] at h, hg⟩
theorem walk_law (hX : XSound P X) {f : FuncId} {args : List PV} {H' : Heap} (h : callW P X f args [] = some (.ok (.bool true) H')) {im : Nat → Nat → Option Value} {w : World} {cargs : Array Value}
    (him : ∀ b o v, im b o = some v → w.cell? ⟨b, o, none⟩ = some v) (ha : ArgsOk (gOf im) args cargs) (hg : GlobOk im) : Calls P f cargs w fun e w' => e = .returned (.bool true) ∧ RowKit.Below w.heap.size w w' := by
  obtain ⟨_, hs⟩ := udr hX f args [] _ h
  refine (hs (gOf im) w cargs (ukw him hg) ha).mono ?_
  rintro e w' ⟨g', hgl, hgr, cv, rfl, hi, hr⟩
  have hv : cv = .bool true := by
    cases hr with
    | one hr => cases hr with
      | pure hr => cases hr with
        | flat hr => cases hr; rfl
  subst hv
  exact ⟨rfl, hgl.os, hgl.tape, hgl.output, hgl.size, fun k hk => (hgl.old k hk rfl (by simp [gOf])).2.2⟩
end Go.Proofs.YtiiepllnnjjmaaaDoor.Pi
namespace Go.Proofs.YtiiepllnnjjmaaaDoor.Pi
variable {α β : Type} {H : Heap} {k j : IntKind} {a b n m : Int} {x y : PV} {ek : EqK}
def resT (v : PV) (m : M PV) : M PV := bif isTup v then M.fail else m
def hget (H : Heap) (id : Nat) : Option Box := H[id]?
def hset (H : Heap) (id : Nat) (b : Box) : Heap := H.set id b
def hadd (H : Heap) (L : List Box) : Heap := H ++ L
def hcut (H : Heap) (n : Nat) : Heap := H.take n
abbrev hlen (H : Heap) : Nat := List.length H
def run (m : M α) (H : Heap) : Option (Out α) := m H
def bindR (r : Option (Out α)) (f : α → M β) : Option (Out β) :=
  match r with
  | none => none
  | some (.ok v H) => run (f v) H
  | some (.pan v H) => some (.pan v H)
def truncR (H : Heap) (r : Option (Out PV)) : Option (Out PV) :=
  match r with
  | none => none
  | some (.ok v H') => some (.ok v (bif v.low H.length then hcut H' H.length else H'))
  | some (.pan v H') => bif v.low H.length then some (.pan v (hcut H' H.length)) else none
noncomputable def nbR (H : Heap) (r : Option (Out α)) (f : α → M β) : Option (Out β) := nb (fun _ => r) f H
@[congr] theorem ukv {r r' : Option (Out α)} {f : α → M β} (h : r = r') : bindR r f = bindR r' f := by rw [h]
@[congr] theorem uln {r r' : Option (Out α)} {f : α → M β} (h : r = r') : nbR H r f = nbR H r' f := by rw [h]
@[congr] theorem ulf {c c' : PV} {x y : M α} (h : c = c') : condM c x y = condM c' x y := by rw [h]
@[congr] theorem ukt {c c' : Bool} {x : M α} (h : c = c') : guardM c x = guardM c' x := by rw [h]
@[congr] theorem uli {c c' : PV} {x : M PV} (h : c = c') : resT c x = resT c' x := by rw [h]
theorem run_bind {m : M α} {f : α → M β} : run (M.bind m f) H = bindR (run m H) f := nrfl rfl
theorem uee {f : α → M β} {v : α} {H : Heap} : bindR (some (.ok v H)) f = run (f v) H := nrfl rfl
theorem u97 {f : α → M β} : bindR none f = none := nrfl rfl
theorem ual {f : α → M β} {v : PV} {H : Heap} : bindR (some (.pan v H)) f = some (.pan v H) := nrfl rfl
theorem uaz {c : Prop} [Decidable c] {r r' : Option (Out α)} {f : α → M β} : bindR (if c then r else r') f = if c then bindR r f else bindR r' f := by split <;> rfl
theorem run_nb {m : M α} {f : α → M β} : run (nb m f) H = nbR H (run m H) f := nrfl rfl
theorem nbR_ok {f : α → M β} {v : α} : nbR H (some (.ok v H)) f = run (f v) H := by simp [nbR, nb, run]
theorem ui6 {c : Prop} [Decidable c] {r r' : Option (Out α)} {f : α → M β} : nbR H (if c then r else r') f = if c then nbR H r f else nbR H r' f := by split <;> rfl
theorem u7y {m : M PV} : run (trunc m) H = truncR H (run m H) := nrfl rfl
theorem u9h {c : Prop} [Decidable c] {r r' : Option (Out PV)} : truncR H (if c then r else r') = if c then truncR H r else truncR H r' := by split <;> rfl
theorem u78 : truncR H none = none := nrfl rfl
theorem uba {v : PV} {H' : Heap} : truncR H (some (.ok v H')) = some (.ok v (if v.low H.length = true then hcut H' H.length else H')) := by
  show some (Out.ok v (bif v.low H.length then hcut H' H.length else H')) = _
  cases v.low H.length <;> rfl
theorem u5s {v : PV} {H' : Heap} : truncR H (some (.pan v H')) = if v.low H.length = true then some (.pan v (hcut H' H.length)) else none := by
  show (bif v.low H.length then some (Out.pan v (hcut H' H.length)) else none) = _
  cases v.low H.length <;> rfl
theorem uci {c : Bool} {m : M α} : run (guardM c m) H = if c = true then run m H else none := by cases c <;> rfl
theorem uf1 {v : PV} {m : M PV} : run (resT v m) H = if isTup v = true then none else run m H := by unfold resT; cases isTup v <;> rfl
theorem ufh {c : Bool} {x y : M α} : run (condM (.bool c) x y) H = if c = true then run x H else run y H := by cases c <;> rfl
theorem ugt {c : Bool} {m : M PV} : run (gd (.bool c) true m) H = if c = true then run m H else some (.ok (.tup []) H) := by cases c <;> rfl
theorem uhy {c : Bool} {m : M PV} : run (gd (.bool c) false m) H = if c = true then some (.ok (.tup []) H) else run m H := by cases c <;> rfl
theorem u9p : strip (.tup []) = .tup [] := nrfl rfl
theorem uhl {b : Bool} {m : M PV} : run (gd (.tup []) b m) H = some (.ok (.tup []) H) := nrfl rfl
theorem ufd {c : Bool} : run (pick (.bool c) x y) H = if c = true then some (.ok (strip x) H) else some (.ok (strip y) H) := by cases c <;> rfl
theorem run_pure {v : α} : run (M.pure v) H = some (.ok v H) := nrfl rfl
theorem uhn {v : PV} : run (M.pan v : M α) H = some (.pan v H) := nrfl rfl
theorem uef : run (M.fail : M α) H = none := nrfl rfl
theorem run_al {cs : List PV} : run (al cs) H = if cs.all isCell = true then some (.ok (.ptr H.length 0) (hadd H [.cells cs])) else none := by unfold run al; cases cs.all isCell <;> rfl
theorem run_bx {n : Nat} {v : PV} : run (bx n v) H = if (v.cells.map stripC).length = n ∧ lowL (H.length + 1) (v.cells.map stripC) = true ∧ v.cells.all isCell = true then some (.ok (.ptr H.length 0) (hadd H [.cells (v.cells.map stripC)])) else none := by
  unfold run bx
  cases h1 : ((v.cells.map stripC).length == n) <;> cases h2 : lowL (H.length + 1) (v.cells.map stripC) <;> cases h3 : v.cells.all isCell <;> simp_all [hadd]
theorem u4y (a b : Nat) : (a == b) = decide (a = b) := by rw [Bool.eq_iff_iff]; simp
def ldB (n : Option Nat) (mv : Bool) (id o : Nat) (H : Heap) : Option Box → Option (Out PV)
  | some (.cells cs) => match n with
      | none => match cs[o]? with
        | some v => bif mv then some (.ok v (hset H id (.cells (cs.set o (stripC v))))) else some (.ok (stripC v) H)
        | none => none
      | some n => bif decide (o + n ≤ cs.length) then some (.ok (.agg (((cs.drop o).take n).map stripC)) H) else none
  | _ => none
theorem run_ld {n : Option Nat} {mv : Bool} {id o : Nat} : run (ld n mv (.ptr id o)) H = ldB n mv id o H (hget H id) := by
  unfold run ld ldB
  rfl
def stB (n : Nat) (mv : Bool) (id o : Nat) (v : PV) (H : Heap) : Option Box → Option (Out PV)
  | some (.cells cs) => bif v.cells.length == n && (decide (o + n ≤ cs.length) && (lowL (id + 1) v.cells && v.cells.all isCell)) then
        some (.ok .undef (hset H id (.cells (fillAt o (bif mv then v.cells else v.cells.map stripC) cs))))
      else none
  | _ => none
theorem run_st {n : Nat} {mv : Bool} {id o : Nat} {v : PV} : run (st n mv (.ptr id o) v) H = stB n mv id o v H (hget H id) := by
  unfold run st stB
  rfl
theorem ufr {n : Nat} {mv : Bool} {id o : Nat} {cs : List PV} : ldB (some n) mv id o H (some (.cells cs)) = if o + n ≤ cs.length then some (.ok (.agg (((cs.drop o).take n).map stripC)) H) else none := by
  show (bif decide (o + n ≤ cs.length) then some (Out.ok (PV.agg (((cs.drop o).take n).map stripC)) H) else none) = _
  by_cases h : o + n ≤ cs.length <;> simp [h]
def nth : List α → Nat → Option α
  | [], _ => none
  | v :: _, 0 => some v
  | _ :: r, n + 1 => nth r n
theorem ufj {v : α} {r : List α} : nth (v :: r) 0 = some v := nrfl rfl
theorem ug2 {v : α} {r : List α} {n : Nat} : nth (v :: r) (n + 1) = nth r n := nrfl rfl
theorem nth_is : ∀ (l : List α) (n : Nat), l[n]? = nth l n
  | [], _ => rfl
  | _ :: _, 0 => rfl
  | _ :: r, n + 1 => nth_is r n
def ldTR (H : Heap) (id : Nat) (cs : List PV) (o : Nat) : Option PV → Option (Out PV)
  | some v => some (.ok v (hset H id (.cells (cs.set o (stripC v)))))
  | none => none
def ldFR (H : Heap) : Option PV → Option (Out PV)
  | some v => some (.ok (stripC v) H)
  | none => none
theorem ucy {id : Nat} {cs : List PV} {o : Nat} {v : PV} : ldTR H id cs o (some v) = some (.ok v (hset H id (.cells (cs.set o (stripC v))))) := nrfl rfl
theorem uax {v : PV} : ldFR H (some v) = some (.ok (stripC v) H) := nrfl rfl
theorem ldB_t {id o : Nat} {cs : List PV} : ldB none true id o H (some (.cells cs)) = ldTR H id cs o (nth cs o) := by
  rw [← nth_is]; rfl
theorem ldB_f {id o : Nat} {cs : List PV} : ldB none false id o H (some (.cells cs)) = ldFR H (nth cs o) := by
  rw [← nth_is]; rfl
theorem stB_is {n : Nat} {mv : Bool} {id o : Nat} {v : PV} {cs : List PV} :
    stB n mv id o v H (some (.cells cs)) = if v.cells.length = n ∧ o + n ≤ cs.length ∧ lowL (id + 1) v.cells = true ∧ v.cells.all isCell = true then some (.ok .undef (hset H id (.cells (fillAt o (if mv = true then v.cells else v.cells.map stripC) cs)))) else none := by
  show (bif v.cells.length == n && (decide (o + n ≤ cs.length) && (lowL (id + 1) v.cells && v.cells.all isCell)) then some (Out.ok PV.undef (hset H id (.cells (fillAt o (bif mv then v.cells else v.cells.map stripC) cs)))) else none) = _
  cases hb : v.cells.all isCell <;> cases hc : lowL (id + 1) v.cells <;> by_cases h1 : v.cells.length = n <;> by_cases h2 : o + n ≤ cs.length <;> cases mv <;> simp [h1, h2, u4y (v.cells.length) n]
theorem ufe {mv : Bool} {cs : List PV} {c : PV} : run (ld none mv (.elem (c :: cs))) H = some (.ok c H) := nrfl rfl
theorem ufi {mv : Bool} {n : Nat} {cs : List PV} : run (ld (some n) mv (.elem cs)) H = if n ≤ cs.length then some (.ok (.agg (cs.take n)) H) else none := by
  show (bif decide (n ≤ cs.length) then M.pure (PV.agg (cs.take n)) else M.fail) H = _
  by_cases h : n ≤ cs.length <;> simp [h, M.pure, M.fail]
theorem ua5 {L : List Box} (k : Nat) : hget (hadd H L) (H.length + k) = nth L k := by unfold hget hadd; rw [List.getElem?_append_right (Nat.le_add_right _ _), Nat.add_sub_cancel_left, nth_is]
theorem uep {L : List Box} : hget (hadd H L) H.length = nth L 0 := ua5 0
theorem ud6 {L : List Box} {i : Nat} (h : i < H.length) : hget (hadd H L) i = hget H i := List.getElem?_append_left h
theorem uac {L : List Box} {x : Box} (k : Nat) : hset (hadd H L) (H.length + k) x = hadd H (L.set k x) := by unfold hset hadd; rw [List.set_append_right _ _ (Nat.le_add_right _ _), Nat.add_sub_cancel_left]
theorem uf4 {L : List Box} {x : Box} : hset (hadd H L) H.length x = hadd H (L.set 0 x) := uac 0
theorem udm {L : List Box} {i : Nat} {x : Box} (h : i < H.length) : hset (hadd H L) i x = hadd (hset H i x) L := List.set_append_left _ _ h
theorem ud2 {i : Nat} {x : Box} (h : i < H.length) : hget (hset H i x) i = some x := by unfold hget hset; rw [List.getElem?_set_self h]
theorem set_set {i : Nat} {x y : Box} : hset (hset H i x) i y = hset H i y := List.set_set _
theorem ud4 {L K : List Box} : hadd (hadd H L) K = hadd H (L ++ K) := List.append_assoc _ _ _
theorem udq {A L : List Box} {n : Nat} (h : n = A.length) : hcut (hadd A L) n = A := by subst h; simp [hcut, hadd]
theorem ud7 {A : List Box} {n : Nat} (h : n = A.length) : hcut A n = A := by subst h; simp [hcut]
theorem cut0 : hcut H H.length = H := ud7 rfl
theorem cut1 {i : Nat} {x : Box} : hcut (hset H i x) H.length = hset H i x := ud7 (by unfold hset; simp)
theorem cut2 {i j : Nat} {x y : Box} : hcut (hset (hset H i x) j y) H.length = hset (hset H i x) j y := ud7 (by unfold hset; simp)
theorem cutA0 {L : List Box} : hcut (hadd H L) H.length = H := udq rfl
theorem cutA1 {L : List Box} {i : Nat} {x : Box} : hcut (hadd (hset H i x) L) H.length = hset H i x := udq (by unfold hset; simp)
theorem cutA2 {L : List Box} {i j : Nat} {x y : Box} : hcut (hadd (hset (hset H i x) j y) L) H.length = hset (hset H i x) j y := udq (by unfold hset; simp)
theorem uda {L : List Box} : List.length (hadd H L) = H.length + L.length := List.length_append
theorem u53 {i : Nat} {x : Box} : List.length (hset H i x) = H.length := List.length_set
theorem u6k {L : List Box} {i : Nat} {y : Box} (k : Nat) : hget (hadd (hset H i y) L) (H.length + k) = nth L k := by
  have := ua5 (H := hset H i y) (L := L) k
  rwa [u53] at this
theorem u79 {L : List Box} {i : Nat} {y : Box} : hget (hadd (hset H i y) L) H.length = nth L 0 := u6k 0
theorem u6q {L : List Box} {i : Nat} {x y : Box} (k : Nat) : hset (hadd (hset H i y) L) (H.length + k) x = hadd (hset H i y) (L.set k x) := by
  have := uac (H := hset H i y) (L := L) (x := x) k
  rwa [u53] at this
theorem u8e {L : List Box} {i : Nat} {x y : Box} : hset (hadd (hset H i y) L) H.length x = hadd (hset H i y) (L.set 0 x) := u6q 0
theorem ua2 {L : List Box} {i j : Nat} {y : Box} (h : i < H.length) : hget (hadd (hset H j y) L) i = hget (hset H j y) i := ud6 (by rw [u53]; exact h)
theorem ua1 {L : List Box} {i j : Nat} {x y : Box} (h : i < H.length) : hset (hadd (hset H j y) L) i x = hadd (hset (hset H j y) i x) L := udm (by rw [u53]; exact h)
theorem w_i64 (h : -9223372036854775808 ≤ n ∧ n ≤ 9223372036854775807) : IntKind.i64.wrap n = n := by rw [IntKind.wrap_i64]; omega
theorem w_u64 (h : 0 ≤ n ∧ n ≤ 18446744073709551615) : IntKind.u64.wrap n = n := by simp only [IntKind.wrap, IntKind.signed, IntKind.bits]; simp; omega
theorem w_u8 (h : 0 ≤ n ∧ n ≤ 255) : IntKind.u8.wrap n = n := by rw [IntKind.wrap_u8]; omega
theorem w_u32 (h : 0 ≤ n ∧ n ≤ 4294967295) : IntKind.u32.wrap n = n := by rw [IntKind.wrap_u32]; omega
theorem w_i32 (h : -2147483648 ≤ n ∧ n ≤ 2147483647) : IntKind.i32.wrap n = n := by rw [IntKind.wrap_i32]; omega
theorem uha (h : b ≠ 0) : bi .quo ek (.int k a) (.int k b) = M.pure (.int k (k.wrap (a.tdiv b))) := by
  have h' : (b == 0) = false := by simpa using h
  cases k <;> simp [bi, intOp, h']
theorem uhf (h : b ≠ 0) : bi .rem ek (.int k a) (.int k b) = M.pure (.int k (a.tmod b)) := by
  have h' : (b == 0) = false := by simpa using h
  cases k <;> simp [bi, intOp, h']
def iaR (H : Heap) : Option PV → Option (Out PV)
  | some x => some (.ok (.elem x.cells) H)
  | none => none
theorem uet {x : PV} : iaR H (some x) = some (.ok (.elem x.cells) H) := nrfl rfl
theorem udf {o z : Bool} {sz : Nat} {xs : List PV} (h0 : 0 ≤ n) : run (iaS sz (.slice o z sz xs) (.int k n)) H = iaR H xs[n.toNat]? := by
  unfold iaS iaR run
  have h' : decide (0 ≤ n) = true := by simpa using h0
  simp only [h', beq_self_eq_true, Bool.and_self, cond_true, u1n, M.fail, M.pure]
  split <;> rename_i h <;> simp only [h] <;> rfl
theorem run_fa {off id o : Nat} : fa off (.ptr id o) = M.pure (.ptr id (o + off)) := nrfl rfl
theorem uix {off : Nat} {cs : List PV} : fa off (.elem cs) = M.pure (.elem (cs.drop off)) := nrfl rfl
theorem u3g {P : Program} {C : CallT} {f : FuncId} {u v args : List PV} : callV P C (.fn f u v) args = C f (u ++ args ++ v) := nrfl rfl
theorem nc_ptr {P : Program} {i o : Nat} : nc P (.ptr i o) = M.pure (.ptr i o) := nrfl rfl
theorem ujb {P : Program} {cs : List PV} : nc P (.elem cs) = M.pure (.elem cs) := nrfl rfl
theorem nc_nil {P : Program} : nc P .nil = M.pan (nilDeref P) := nrfl rfl
theorem run_mi {t : TypeId} {v : PV} : run (mi t v) H = if isVal v = true then some (.ok (.iface t (stripC v)) H) else none := by
  unfold run mi
  cases isVal v <;> rfl
theorem run_pn {t : TypeId} {v : PV} : pn (.iface t v) = M.pan (.iface t v) := nrfl rfl
theorem ugw {o : Bool} : cv (.int k) o (.int j n) = M.pure (.int k (k.wrap n)) := nrfl rfl
theorem uj1 {v : PV} {r : List PV} : ex 0 (.tup (v :: r)) = M.pure v := nrfl rfl
theorem uj7 {u v : PV} {r : List PV} : ex 1 (.tup (u :: v :: r)) = M.pure v := nrfl rfl
theorem uhb {u v x : PV} {r : List PV} : ex 2 (.tup (u :: v :: x :: r)) = M.pure x := nrfl rfl
theorem uf9 {v : PV} {r : List PV} : tupDrop 0 (.tup (v :: r)) = .tup (stripC v :: r) := nrfl rfl
theorem uf8 {u v : PV} {r : List PV} : tupDrop 1 (.tup (u :: v :: r)) = .tup (u :: stripC v :: r) := nrfl rfl
theorem ug0 {u v x : PV} {r : List PV} : tupDrop 2 (.tup (u :: v :: x :: r)) = .tup (u :: v :: stripC x :: r) := nrfl rfl
section
variable {c d : Bool} {s : ByteArray} {i o : Nat} {cs ds : List PV} {N : Nat}
theorem ubs : isTup (.int k n) = false := nrfl rfl
theorem u8w : isCell (.int k n) = true := nrfl rfl
theorem ubo : isVal (.int k n) = true := nrfl rfl
theorem ubi : isPtr (.int k n) = false := nrfl rfl
theorem ud0 : PV.cells (.int k n) = [(.int k n)] := nrfl rfl
theorem udu : PV.low N (.int k n) = true := by simp only [PV.low]
theorem u9j : isTup (.bool c) = false := nrfl rfl
theorem u8l : isCell (.bool c) = true := nrfl rfl
theorem u9a : isVal (.bool c) = true := nrfl rfl
theorem u9c : isPtr (.bool c) = false := nrfl rfl
theorem u9k : PV.cells (.bool c) = [(.bool c)] := nrfl rfl
theorem uf2 : PV.low N (.bool c) = true := by simp only [PV.low]
theorem ubk : isTup (.str s) = false := nrfl rfl
theorem u9s : isCell (.str s) = true := nrfl rfl
theorem ucq : isVal (.str s) = true := nrfl rfl
theorem uc1 : isPtr (.str s) = false := nrfl rfl
theorem ubn : PV.cells (.str s) = [(.str s)] := nrfl rfl
theorem uid : PV.low N (.str s) = true := by simp only [PV.low]
theorem uc0 : isTup .nil = false := nrfl rfl
theorem u9r : isCell .nil = true := nrfl rfl
theorem ubx : isVal .nil = true := nrfl rfl
theorem uay : isPtr .nil = false := nrfl rfl
theorem ucl : PV.cells .nil = [.nil] := nrfl rfl
theorem uh8 : PV.low N .nil = true := by simp only [PV.low]
theorem uas : isTup (.ptr i o) = false := nrfl rfl
theorem u92 : isCell (.ptr i o) = true := nrfl rfl
theorem uck : isVal (.ptr i o) = true := nrfl rfl
theorem uat : isPtr (.ptr i o) = true := nrfl rfl
theorem ucm : PV.cells (.ptr i o) = [(.ptr i o)] := nrfl rfl
theorem uir : PV.low N (.ptr i o) = decide (i < N) := by simp only [PV.low]
theorem u9b : isTup (.elem cs) = false := nrfl rfl
theorem u7q : isCell (.elem cs) = true := nrfl rfl
theorem u9q : isVal (.elem cs) = true := nrfl rfl
theorem u9v : isPtr (.elem cs) = false := nrfl rfl
theorem u9t : PV.cells (.elem cs) = [(.elem cs)] := nrfl rfl
theorem ufc : PV.low N (.elem cs) = true := by simp only [PV.low]
theorem u86 : isTup (.slice c d i cs) = false := nrfl rfl
theorem u60 : isCell (.slice c d i cs) = true := nrfl rfl
theorem u7i : isVal (.slice c d i cs) = true := nrfl rfl
theorem u8h : isPtr (.slice c d i cs) = false := nrfl rfl
theorem u88 : PV.cells (.slice c d i cs) = [(.slice c d i cs)] := nrfl rfl
theorem u8a : PV.low N (.slice c d i cs) = true := by simp only [PV.low]
theorem ufz : isTup (.fn i cs ds) = false := nrfl rfl
theorem ucr : isCell (.fn i cs ds) = true := nrfl rfl
theorem ues : isVal (.fn i cs ds) = true := nrfl rfl
theorem ue7 : isPtr (.fn i cs ds) = false := nrfl rfl
theorem uej : PV.cells (.fn i cs ds) = [(.fn i cs ds)] := nrfl rfl
theorem low_fn : PV.low N (.fn i cs ds) = (lowL N cs && lowL N ds) := by simp only [PV.low]
theorem u89 : isTup .nilfn = false := nrfl rfl
theorem u67 : isCell .nilfn = true := nrfl rfl
theorem u76 : isVal .nilfn = true := nrfl rfl
theorem u81 : isPtr .nilfn = false := nrfl rfl
theorem u7x : PV.cells .nilfn = [.nilfn] := nrfl rfl
theorem ucb : PV.low N .nilfn = true := by simp only [PV.low]
theorem u77 : isTup (.iface i x) = false := nrfl rfl
theorem u66 : isCell (.iface i x) = true := nrfl rfl
theorem u7f : isVal (.iface i x) = true := nrfl rfl
theorem u8c : isPtr (.iface i x) = false := nrfl rfl
theorem u8k : PV.cells (.iface i x) = [(.iface i x)] := nrfl rfl
theorem u70 : PV.low N (.iface i x) = x.low N := by simp only [PV.low]
theorem u4v : isTup .niliface = false := nrfl rfl
theorem u43 : isCell .niliface = true := nrfl rfl
theorem u4z : isVal .niliface = true := nrfl rfl
theorem u4u : isPtr .niliface = false := nrfl rfl
theorem u4x : PV.cells .niliface = [.niliface] := nrfl rfl
theorem u65 : PV.low N .niliface = true := by simp only [PV.low]
theorem uce : isTup (.agg cs) = false := nrfl rfl
theorem u96 : isCell (.agg cs) = false := nrfl rfl
theorem ub5 : isVal (.agg cs) = true := nrfl rfl
theorem uao : isPtr (.agg cs) = false := nrfl rfl
theorem uc5 : PV.cells (.agg cs) = cs := nrfl rfl
theorem ud9 : PV.low N (.agg cs) = lowL N cs := by simp only [PV.low]
theorem ube : isTup (.tup cs) = true := nrfl rfl
theorem u9d : isCell (.tup cs) = false := nrfl rfl
theorem uc9 : isVal (.tup cs) = false := nrfl rfl
theorem ubq : isPtr (.tup cs) = false := nrfl rfl
theorem uc4 : PV.cells (.tup cs) = [(.tup cs)] := nrfl rfl
theorem uhr : PV.low N (.tup cs) = lowL N cs := by simp only [PV.low]
theorem u7u : isTup .undef = false := nrfl rfl
theorem u5w : isCell .undef = false := nrfl rfl
theorem u6z : isVal .undef = false := nrfl rfl
theorem u7k : isPtr .undef = false := nrfl rfl
theorem u7p : PV.cells .undef = [.undef] := nrfl rfl
theorem ucf : PV.low N .undef = true := by simp only [PV.low]
end
theorem ua6 {n : Nat} : lowL n [] = true := by simp only [lowL]
theorem u8i {n : Nat} {v : PV} {r : List PV} : lowL n (v :: r) = (v.low n && lowL n r) := by simp only [lowL]
def bdR (H : Heap) : Option (List PV) → Option (Out PV)
  | some cs => some (.ok (.agg cs) H)
  | none => none
theorem ug5 {cs : List PV} : bdR H (some cs) = some (.ok (.agg cs) H) := nrfl rfl
theorem run_bd {zero : List PV} {parts : List (Nat × Nat × PV)} : run (bd zero parts) H = bdR H (u25 parts zero) := by
  unfold run bd bdR
  cases u25 parts zero <;> rfl
theorem u6y {cs : List PV} : u25 [] cs = some cs := nrfl rfl
theorem u5u {off size : Nat} {v : PV} {r : List (Nat × Nat × PV)} {cs : List PV} : u25 ((off, size, v) :: r) cs = if v.cells.length = size ∧ off + size ≤ cs.length ∧ v.cells.all isCell = true then u25 r (fillAt off (v.cells.map stripC) cs) else none := by
  show (bif v.cells.length == size && (decide (off + size ≤ cs.length) && v.cells.all isCell) then u25 r (fillAt off (v.cells.map stripC) cs) else none) = _
  cases hb : v.cells.all isCell <;> by_cases h1 : v.cells.length = size <;> by_cases h2 : off + size ≤ cs.length <;> simp [h1, h2, hb, u4y (v.cells.length) size]
theorem uaw {off : Nat} {vs cs : List PV} : fillAt off vs cs = cs.take off ++ vs ++ cs.drop (off + vs.length) := nrfl rfl
def bsR (own : Bool) (a : Option Nat) (vs : List PV) (H : Heap) : Option (Out PV) := if vs.all (u17 a) = true then some (.ok (.slice own false (a.getD 1) vs) H) else none
theorem run_bs {own : Bool} {a : Option Nat} {vs : List PV} : run (bs own a vs) H = bsR own a (vs.map stripC) H := by
  unfold run bs bsR
  cases ((vs.map stripC).all (u17 a)) <;> rfl
def noPanR : Option (Out PV) → Option (Out PV)
  | some (.ok v H) => some (.ok v H)
  | _ => none
theorem u7s {m : M PV} : run (noPan m) H = noPanR (run m H) := by
  unfold run noPan noPanR
  cases m H with
  | none => rfl
  | some q => cases q <;> rfl
theorem ub7 {v : PV} {H : Heap} : noPanR (some (.ok v H)) = some (.ok v H) := nrfl rfl
theorem u9e {v : PV} {H : Heap} : noPanR (some (.pan v H)) = none := nrfl rfl
theorem u8q : noPanR none = none := nrfl rfl
theorem u9f {c : Prop} [Decidable c] {r r' : Option (Out PV)} : noPanR (if c then r else r') = if c then noPanR r else noPanR r' := by split <;> rfl
noncomputable def chkR (r r' : Option (Out α)) (x : M β) (H : Heap) : Option (Out β) := run (chk (fun _ => r) (fun _ => r') x) H
@[congr] theorem ull {r r' s s' : Option (Out α)} {x : M β} (h : r = s) (h' : r' = s') : chkR r r' x H = chkR s s' x H := by rw [h, h']
theorem uiu {m m' : M α} {x : M β} : run (chk m m' x) H = chkR (run m H) (run m' H) x H := nrfl rfl
theorem udy {a : α} {K : Heap} {x : M β} : chkR (some (.ok a K)) (some (.ok a K)) x H = run x H := by
  simp [chkR, run, chk]
theorem ui2 {i o : Nat} : tld (.ptr i o) = .ld i := nrfl rfl
theorem ujd {i o : Nat} : tst (.ptr i o) = .st i := nrfl rfl
theorem uer {cs : List PV} : tld (.elem cs) = .no := nrfl rfl
theorem ufp {x : Touch} : clash .no x = false := nrfl rfl
theorem ucd {y : Touch} : clash y .no = false := by cases y <;> rfl
theorem u75 {i j : Nat} : clash (.ld i) (.ld j) = false := nrfl rfl
theorem u7l {i j : Nat} : clash (.ld j) (.st i) = (i == j) := nrfl rfl
theorem u8o {i j : Nat} : clash (.st j) (.ld i) = (i == j) := nrfl rfl
theorem u8d {i j : Nat} : clash (.st j) (.st i) = (i == j) := nrfl rfl
theorem u5z {i : Nat} : clash .any (.ld i) = false := nrfl rfl
theorem u6b {i : Nat} : clash (.ld i) .any = false := nrfl rfl
theorem u5b : clash .any .any = false := nrfl rfl
def defR (CD : Option PV → CallT) (f : FuncId) (args : List PV) (res : M PV) : Option (Out PV) → Option (Out PV)
  | none => none
  | some (.ok _ H) => bindR (run (CD none f args) H) (fun _ => res)
  | some (.pan v H) => bindR (run (CD (some v) f args) H) (fun r => match r with | .tup [] => res | _ => M.fail)
theorem ub8 {CD : Option PV → CallT} {f : FuncId} {u v args : List PV} {rest res : M PV} : run (deferM CD (.fn f u v) args rest res) H = defR CD f (u ++ args ++ v) res (run rest H) := by
  unfold run deferM defR
  dsimp only
  cases rest H with
  | none => rfl
  | some q => cases q <;> rfl
@[congr] theorem ulk {CD : Option PV → CallT} {f : FuncId} {args : List PV} {res : M PV} {r r' : Option (Out PV)} (h : r = r') : defR CD f args res r = defR CD f args res r' := by rw [h]
theorem ubg {CD : Option PV → CallT} {f : FuncId} {args : List PV} {res : M PV} : defR CD f args res none = none := nrfl rfl
theorem uhq {CD : Option PV → CallT} {f : FuncId} {args : List PV} {res : M PV} {v : PV} : defR CD f args res (some (.ok v H)) = bindR (run (CD none f args) H) (fun _ => res) := nrfl rfl
theorem uf5 {CD : Option PV → CallT} {f : FuncId} {args : List PV} {res : M PV} {v : PV} : defR CD f args res (some (.pan v H)) = bindR (run (CD (some v) f args) H) (fun r => match r with | .tup [] => res | _ => M.fail) := nrfl rfl
theorem uf6 {CD : Option PV → CallT} {f : FuncId} {args : List PV} {res : M PV} {c : Prop} [Decidable c] {r r' : Option (Out PV)} : defR CD f args res (if c then r else r') = if c then defR CD f args res r else defR CD f args res r' := by split <;> rfl
end Go.Proofs.YtiiepllnnjjmaaaDoor.Pi
namespace Go.Proofs.YtiiepllnnjjmaaaDoor.Pi
def byt (c : UInt8) : PV := .int .u8 c.toNat
abbrev bytes (b : List UInt8) : List PV := b.map byt
inductive Rs (α : Type) where
  | ok (v : α) (p : Nat)
  | err (p e : Nat)
end Go.Proofs.YtiiepllnnjjmaaaDoor.Pi
namespace Go.Proofs.YtiiepllnnjjmaaaDoor.Pi
def okS (h c : Nat) : Prop := c < 128 ∧ (c / 2 ^ (h - 1) = 0 ∨ c / 2 ^ (h - 1) = 2 ^ (8 - h) - 1)
instance (h c : Nat) : Decidable (okS h c) := by unfold okS; infer_instance
end Go.Proofs.YtiiepllnnjjmaaaDoor.Pi
namespace Go.Proofs.YtiiepllnnjjmaaaDoor.Pi
open Go.ChangeShapes Go.WideShapes
def imOf (w : World) (b o : Nat) : Option Value := w.cell? ⟨b, o, none⟩
theorem imOf_ok (w : World) : ∀ b o v, imOf w b o = some v → w.cell? ⟨b, o, none⟩ = some v := fun _ _ _ h => h
end Go.Proofs.YtiiepllnnjjmaaaDoor.Pi
namespace Go.Proofs.YtiiepllnnjjmaaaDoor.Pi
theorem goDown : type_of% (And.intro (And.intro (And.intro (And.intro (And.intro @run_bind @uee) (And.intro @u97 @ual)) (And.intro (And.intro @uaz
    @run_nb) (And.intro @nbR_ok @ui6))) (And.intro (And.intro (And.intro @u7y @u9h) (And.intro @u78 @uba)) (And.intro
    (And.intro @u5s @uci) (And.intro @uf1 (And.intro @ufh @ugt))))) (And.intro (And.intro (And.intro (And.intro @uhy
    @uhl) (And.intro @run_pure @uhn)) (And.intro (And.intro @uef @u7s) (And.intro @ub7 @u9e))) (And.intro (And.intro
    (And.intro @u8q @u9f) (And.intro @uiu @udy)) (And.intro (And.intro @ub8 @ubg) (And.intro @uhq (And.intro
    @uf5 @uf6)))))) := (And.intro (And.intro (And.intro (And.intro (And.intro @run_bind @uee) (And.intro @u97 @ual)) (And.intro (And.intro @uaz
    @run_nb) (And.intro @nbR_ok @ui6))) (And.intro (And.intro (And.intro @u7y @u9h) (And.intro @u78 @uba)) (And.intro
    (And.intro @u5s @uci) (And.intro @uf1 (And.intro @ufh @ugt))))) (And.intro (And.intro (And.intro (And.intro @uhy
    @uhl) (And.intro @run_pure @uhn)) (And.intro (And.intro @uef @u7s) (And.intro @ub7 @u9e))) (And.intro (And.intro
    (And.intro @u8q @u9f) (And.intro @uiu @udy)) (And.intro (And.intro @ub8 @ubg) (And.intro @uhq (And.intro
    @uf5 @uf6))))))
theorem goUp : type_of% (And.intro (And.intro (And.intro (And.intro (And.intro (And.intro (And.intro @u9p (And.intro @ufd @run_al)) (And.intro (And.intro @run_bx
    @run_ld) (And.intro @run_st @ufr))) (And.intro (And.intro (And.intro @ufj @ug2) (And.intro @ucy @uax)) (And.intro
    (And.intro @ldB_t @ldB_f) (And.intro @stB_is @ufe)))) (And.intro (And.intro (And.intro @ufi (And.intro @ua5 @uep)) (And.intro
    (And.intro @ud6 @uac) (And.intro @uf4 @udm))) (And.intro (And.intro (And.intro @ud2 @set_set) (And.intro @ud4 @cut0))
    (And.intro (And.intro @cut1 @cut2) (And.intro @cutA0 @cutA1))))) (And.intro (And.intro (And.intro (And.intro @cutA2 (And.intro @uda @u53))
    (And.intro (And.intro @w_i64 @w_u64) (And.intro @w_u8 @w_u32))) (And.intro (And.intro (And.intro @w_i32 @uha) (And.intro @uhf @uet))
    (And.intro (And.intro @udf @run_fa) (And.intro @uix @u3g)))) (And.intro (And.intro (And.intro @nc_ptr (And.intro @ujb @nc_nil))
    (And.intro (And.intro @run_mi @run_pn) (And.intro @ugw @uj1))) (And.intro (And.intro (And.intro @uj7 @uhb) (And.intro @uf9
    @uf8)) (And.intro (And.intro @ug0 @ubs) (And.intro @u8w @ubo)))))) (And.intro (And.intro (And.intro (And.intro
    (And.intro @ubi (And.intro @ud0 @udu)) (And.intro (And.intro @u9j @u8l) (And.intro @u9a @u9c)))
    (And.intro (And.intro (And.intro @u9k @uf2) (And.intro @ubk @u9s)) (And.intro (And.intro @ucq @uc1) (And.intro
    @ubn @uid)))) (And.intro (And.intro (And.intro @uc0 (And.intro @u9r @ubx)) (And.intro (And.intro @uay
    @ucl) (And.intro @uh8 @uas))) (And.intro (And.intro (And.intro @u92 @uck) (And.intro @uat @ucm))
    (And.intro (And.intro @uir @u9b) (And.intro @u7q @u9q))))) (And.intro (And.intro (And.intro (And.intro @u9v
    (And.intro @u9t @ufc)) (And.intro (And.intro @u86 @u60) (And.intro @u7i @u8h))) (And.intro (And.intro
    (And.intro @u88 @u8a) (And.intro @ufz @ucr)) (And.intro (And.intro @ues @ue7) (And.intro @uej @low_fn))))
    (And.intro (And.intro (And.intro @u89 (And.intro @u67 @u76)) (And.intro (And.intro @u81 @u7x) (And.intro
    @ucb @u77))) (And.intro (And.intro (And.intro @u66 @u7f) (And.intro @u8c @u8k)) (And.intro
    (And.intro @u70 @u4v) (And.intro @u43 @u4z))))))) (And.intro (And.intro (And.intro (And.intro (And.intro
    (And.intro @u4u (And.intro @u4x @u65)) (And.intro (And.intro @uce @u96) (And.intro @ub5
    @uao))) (And.intro (And.intro (And.intro @uc5 @ud9) (And.intro @ube @u9d)) (And.intro (And.intro @uc9
    @ubq) (And.intro @uc4 @uhr)))) (And.intro (And.intro (And.intro @u7u (And.intro @u5w @u6z)) (And.intro
    (And.intro @u7k @u7p) (And.intro @ucf @ua6))) (And.intro (And.intro (And.intro @u8i @ug5) (And.intro @run_bd
    @u6y)) (And.intro (And.intro @u5u @uaw) (And.intro @run_bs @ui2))))) (And.intro (And.intro (And.intro (And.intro
    @ujd (And.intro @uer @ufp)) (And.intro (And.intro @ucd @u75) (And.intro @u7l @u8o))) (And.intro
    (And.intro (And.intro @u8d @u5z) (And.intro @u6b @u5b)) (And.intro (And.intro @uap @u8v)
    (And.intro @ucz @u7r)))) (And.intro (And.intro (And.intro @uau (And.intro @ubl @u9i)) (And.intro (And.intro
    @uco @u4w) (And.intro @u85 @ufs))) (And.intro (And.intro (And.intro @u6t @ubb) (And.intro @u1z
    @u7d)) (And.intro (And.intro @u9l @u62) (And.intro @u8z @u8u)))))) (And.intro (And.intro (And.intro
    (And.intro (And.intro @u9n (And.intro @u3u @u63)) (And.intro (And.intro @ubt @bi_add) (And.intro @bi_sub
    @bi_mul))) (And.intro (And.intro (And.intro @bi_eql @bi_neq) (And.intro @bi_lss @bi_leq)) (And.intro (And.intro @bi_gtr @bi_geq) (And.intro
    @uiz @uit)))) (And.intro (And.intro (And.intro @uj0 (And.intro @uja @un_not)) (And.intro (And.intro @uby @uj6) (And.intro
    @mx_int @mn_int))) (And.intro (And.intro (And.intro @cv_int @Bool.and_true) (And.intro @Bool.true_and @Bool.and_self)) (And.intro (And.intro
    @Bool.not_true @Bool.not_false) (And.intro @Bool.and_false @Bool.false_and))))) (And.intro (And.intro (And.intro (And.intro @Bool.or_true
    (And.intro @Bool.or_false @Bool.true_or)) (And.intro (And.intro @Bool.false_or @Bool.false_eq_true) (And.intro @decide_eq_true_eq @and_self)))
    (And.intro (And.intro (And.intro @and_true @true_and) (And.intro @not_true_eq_false @not_false_eq_true)) (And.intro (And.intro @Nat.zero_add
    @Nat.add_zero) (And.intro @Nat.le_refl @Nat.lt_add_one)))) (And.intro (And.intro (And.intro (And.intro @Nat.lt_irrefl @and_false) (And.intro
    @false_and @Bool.not_eq_true')) (And.intro (And.intro @Bool.not_eq_eq_eq_not @decide_eq_false_iff_not) (And.intro @Bool.and_eq_true
    @Bool.or_eq_true))) (And.intro (And.intro (And.intro @decide_true @decide_false) (And.intro @u6k @u79)) (And.intro (And.intro @u6q
    @u8e) (And.intro @ua2 @ua1)))))))) := (And.intro (And.intro (And.intro (And.intro (And.intro (And.intro (And.intro @u9p (And.intro @ufd @run_al)) (And.intro (And.intro @run_bx
    @run_ld) (And.intro @run_st @ufr))) (And.intro (And.intro (And.intro @ufj @ug2) (And.intro @ucy @uax)) (And.intro
    (And.intro @ldB_t @ldB_f) (And.intro @stB_is @ufe)))) (And.intro (And.intro (And.intro @ufi (And.intro @ua5 @uep)) (And.intro
    (And.intro @ud6 @uac) (And.intro @uf4 @udm))) (And.intro (And.intro (And.intro @ud2 @set_set) (And.intro @ud4 @cut0))
    (And.intro (And.intro @cut1 @cut2) (And.intro @cutA0 @cutA1))))) (And.intro (And.intro (And.intro (And.intro @cutA2 (And.intro @uda @u53))
    (And.intro (And.intro @w_i64 @w_u64) (And.intro @w_u8 @w_u32))) (And.intro (And.intro (And.intro @w_i32 @uha) (And.intro @uhf @uet))
    (And.intro (And.intro @udf @run_fa) (And.intro @uix @u3g)))) (And.intro (And.intro (And.intro @nc_ptr (And.intro @ujb @nc_nil))
    (And.intro (And.intro @run_mi @run_pn) (And.intro @ugw @uj1))) (And.intro (And.intro (And.intro @uj7 @uhb) (And.intro @uf9
    @uf8)) (And.intro (And.intro @ug0 @ubs) (And.intro @u8w @ubo)))))) (And.intro (And.intro (And.intro (And.intro
    (And.intro @ubi (And.intro @ud0 @udu)) (And.intro (And.intro @u9j @u8l) (And.intro @u9a @u9c)))
    (And.intro (And.intro (And.intro @u9k @uf2) (And.intro @ubk @u9s)) (And.intro (And.intro @ucq @uc1) (And.intro
    @ubn @uid)))) (And.intro (And.intro (And.intro @uc0 (And.intro @u9r @ubx)) (And.intro (And.intro @uay
    @ucl) (And.intro @uh8 @uas))) (And.intro (And.intro (And.intro @u92 @uck) (And.intro @uat @ucm))
    (And.intro (And.intro @uir @u9b) (And.intro @u7q @u9q))))) (And.intro (And.intro (And.intro (And.intro @u9v
    (And.intro @u9t @ufc)) (And.intro (And.intro @u86 @u60) (And.intro @u7i @u8h))) (And.intro (And.intro
    (And.intro @u88 @u8a) (And.intro @ufz @ucr)) (And.intro (And.intro @ues @ue7) (And.intro @uej @low_fn))))
    (And.intro (And.intro (And.intro @u89 (And.intro @u67 @u76)) (And.intro (And.intro @u81 @u7x) (And.intro
    @ucb @u77))) (And.intro (And.intro (And.intro @u66 @u7f) (And.intro @u8c @u8k)) (And.intro
    (And.intro @u70 @u4v) (And.intro @u43 @u4z))))))) (And.intro (And.intro (And.intro (And.intro (And.intro
    (And.intro @u4u (And.intro @u4x @u65)) (And.intro (And.intro @uce @u96) (And.intro @ub5
    @uao))) (And.intro (And.intro (And.intro @uc5 @ud9) (And.intro @ube @u9d)) (And.intro (And.intro @uc9
    @ubq) (And.intro @uc4 @uhr)))) (And.intro (And.intro (And.intro @u7u (And.intro @u5w @u6z)) (And.intro
    (And.intro @u7k @u7p) (And.intro @ucf @ua6))) (And.intro (And.intro (And.intro @u8i @ug5) (And.intro @run_bd
    @u6y)) (And.intro (And.intro @u5u @uaw) (And.intro @run_bs @ui2))))) (And.intro (And.intro (And.intro (And.intro
    @ujd (And.intro @uer @ufp)) (And.intro (And.intro @ucd @u75) (And.intro @u7l @u8o))) (And.intro
    (And.intro (And.intro @u8d @u5z) (And.intro @u6b @u5b)) (And.intro (And.intro @uap @u8v)
    (And.intro @ucz @u7r)))) (And.intro (And.intro (And.intro @uau (And.intro @ubl @u9i)) (And.intro (And.intro
    @uco @u4w) (And.intro @u85 @ufs))) (And.intro (And.intro (And.intro @u6t @ubb) (And.intro @u1z
    @u7d)) (And.intro (And.intro @u9l @u62) (And.intro @u8z @u8u)))))) (And.intro (And.intro (And.intro
    (And.intro (And.intro @u9n (And.intro @u3u @u63)) (And.intro (And.intro @ubt @bi_add) (And.intro @bi_sub
    @bi_mul))) (And.intro (And.intro (And.intro @bi_eql @bi_neq) (And.intro @bi_lss @bi_leq)) (And.intro (And.intro @bi_gtr @bi_geq) (And.intro
    @uiz @uit)))) (And.intro (And.intro (And.intro @uj0 (And.intro @uja @un_not)) (And.intro (And.intro @uby @uj6) (And.intro
    @mx_int @mn_int))) (And.intro (And.intro (And.intro @cv_int @Bool.and_true) (And.intro @Bool.true_and @Bool.and_self)) (And.intro (And.intro
    @Bool.not_true @Bool.not_false) (And.intro @Bool.and_false @Bool.false_and))))) (And.intro (And.intro (And.intro (And.intro @Bool.or_true
    (And.intro @Bool.or_false @Bool.true_or)) (And.intro (And.intro @Bool.false_or @Bool.false_eq_true) (And.intro @decide_eq_true_eq @and_self)))
    (And.intro (And.intro (And.intro @and_true @true_and) (And.intro @not_true_eq_false @not_false_eq_true)) (And.intro (And.intro @Nat.zero_add
    @Nat.add_zero) (And.intro @Nat.le_refl @Nat.lt_add_one)))) (And.intro (And.intro (And.intro (And.intro @Nat.lt_irrefl @and_false) (And.intro
    @false_and @Bool.not_eq_true')) (And.intro (And.intro @Bool.not_eq_eq_eq_not @decide_eq_false_iff_not) (And.intro @Bool.and_eq_true
    @Bool.or_eq_true))) (And.intro (And.intro (And.intro @decide_true @decide_false) (And.intro @u6k @u79)) (And.intro (And.intro @u6q
    @u8e) (And.intro @ua2 @ua1))))))))
theorem cr : (∀ {α : Type} {a : α} {l : List α}, (a :: l).length = l.length + 1) ∧ (∀ {α : Type}, ([] : List α).length = 0) ∧ (∀ {α β : Type} {f : α → β} {a : α} {l : List α}, (a :: l).map f = f a :: l.map f) ∧ (∀ {α β : Type} {f : α → β}, [].map f = []) ∧ (∀ {α : Type} {a : α} {l : List α} {i : Nat}, (a :: l).take (i + 1) = a :: l.take i) ∧ (∀ {α : Type} {l : List α}, l.take 0 = []) ∧ (∀ {α : Type} {a : α} {l : List α} {i : Nat}, (a :: l).drop (i + 1) = l.drop i) ∧ (∀ {α : Type} {l : List α}, l.drop 0 = l) ∧ (∀ {α : Type} {i : Nat}, ([] : List α).drop i = []) ∧ (∀ {α : Type} {i : Nat}, ([] : List α).take i = []) ∧ (∀ {α : Type} {a : α} {l k : List α}, a :: l ++ k = a :: (l ++ k)) ∧ (∀ {α : Type} {l : List α}, [] ++ l = l) ∧ (∀ {α : Type} {l : List α}, l ++ [] = l) ∧ (∀ {α : Type} {a b : α} {l : List α}, (a :: l).set 0 b = b :: l) ∧ (∀ {α : Type} {a b : α} {l : List α} {i : Nat}, (a :: l).set (i + 1) b = a :: l.set i b) ∧ (∀ {α : Type} {f : α → Bool} {a : α} {l : List α}, (a :: l).all f = (f a && l.all f)) ∧ (∀ {α : Type} {f : α → Bool}, [].all f = true) ∧ (∀ {a b : Int}, a ≥ b ↔ b ≤ a) ∧ (∀ {a b : Nat}, a ≥ b ↔ b ≤ a) ∧ (∀ {a b : Int}, a > b ↔ b < a) ∧ (∀ {a b : Nat}, a > b ↔ b < a) ∧ (∀ {α : Type} [BEq α] [ReflBEq α] {a : α}, (a == a) = true) ∧ (∀ {α : Type} [BEq α] [LawfulBEq α] {a b : α}, (a == b) = true ↔ a = b) ∧ (∀ {α : Type} [BEq α] [LawfulBEq α] {a b : α}, (a != b) = true ↔ a ≠ b) ∧ (∀ {α : Type} {a b : α}, (a ≠ b) = ¬ a = b) ∧ (∀ {α : Type} {p : Prop} [Decidable p] {x y : α}, (if ¬ p then x else y) = if p then y else x) ∧ (∀ {α : Type} {p : Prop} [Decidable p] {x : α}, (if p then x else x) = x) ∧ (∀ {α : Type} {a b : α}, (some a).getD b = a) ∧ (∀ {α : Type} {b : α}, (none : Option α).getD b = b) :=
  ⟨List.length_cons, List.length_nil, List.map_cons, List.map_nil, List.take_succ_cons, List.take_zero, List.drop_succ_cons, List.drop_zero, List.drop_nil, List.take_nil, List.cons_append, (List.nil_append _), (List.append_nil _), List.set_cons_zero, List.set_cons_succ, List.all_cons, List.all_nil, Iff.rfl, Iff.rfl, Iff.rfl, Iff.rfl, (beq_self_eq_true _), beq_iff_eq, bne_iff_ne, (ne_eq _ _), (ite_not _ _ _), (ite_self _), Option.getD_some, Option.getD_none⟩
end Go.Proofs.YtiiepllnnjjmaaaDoor.Pi
namespace Go.Proofs.YtiiepllnnjjmaaaDoor.Pi
variable {α β σ : Type} {c : Nat} {H : Heap}
def St (H : Heap) (c : Nat) (bx : Box) (L : List Box) : Heap := hadd (hset H c bx) L
def killR (c : Nat) : Option (Out α) → Option (Out α)
  | some (.pan v H) => some (.pan v (hset H c .dead))
  | r => r
def runK (c : Nat) (m : M α) (H : Heap) : Option (Out α) := killR c (run m H)
def bindK (c : Nat) (r : Option (Out α)) (f : α → M β) : Option (Out β) :=
  match r with
  | none => none
  | some (.ok v H) => runK c (f v) H
  | some (.pan v H) => some (.pan v H)
inductive Res (σ α : Type) where
  | ok (v : α) (s : σ)
  | err (t : TypeId) (l : List Int)
  | no
def fltP (t : TypeId) (l : List Int) : PV := .iface t (.agg (l.map (PV.int .i64)))
theorem uhv {t : TypeId} {l : List Int} : fltP t l = .iface t (.agg (l.map (PV.int .i64))) := nrfl rfl
theorem uca {n : Nat} : ∀ l : List Int, lowL n (l.map (PV.int .i64)) = true
  | [] => ua6
  | a :: r => by rw [List.map_cons, u8i, udu, uca r]; rfl
theorem uaf {t : TypeId} {l : List Int} {n : Nat} : (fltP t l).low n = true := by
  unfold fltP
  rw [u70, ud9]
  exact uca l
def Res.bind {σ τ α β : Type} (r : Res σ α) (g : α → σ → Res τ β) : Res τ β :=
  match r with
  | .ok v s => g v s
  | .err t l => .err t l
  | .no => .no
def elimK {σ α γ : Type} (c : Nat) (H : Heap) (L : List Box) (r : Res σ α) (g : α → σ → Option (Out γ)) : Option (Out γ) :=
  match r with
  | .ok v s => g v s
  | .err t l => some (.pan (fltP t l) (St H c .dead L))
  | .no => none
def outK (c : Nat) (H : Heap) (L : List Box) (bx : σ → Box) (enc : α → PV) (r : Res σ α) : Option (Out PV) := elimK c H L r fun v s => some (.ok (enc v) (St H c (bx s) L))
def outS (c : Nat) (H : Heap) (L : List Box) (bx : σ → Box) (enc : α → PV) (r : α × σ) : Option (Out PV) := some (.ok (enc r.1) (St H c (bx r.2) L))
@[congr] theorem ul5 {r r' : Option (Out α)} {f : α → M β} (h : r = r') : bindK c r f = bindK c r' f := by rw [h]
@[congr] theorem ula {σ α γ : Type} {L L' : List Box} {r r' : Res σ α} {g g' : α → σ → Option (Out γ)} (h : r = r') (hL : L = L') (hg : ∀ v s, r' = .ok v s → g v s = g' v s) : elimK c H L r g = elimK c H L' r' g' := by
  subst h hL
  cases r with
  | ok v s => exact hg v s rfl
  | err t l => rfl
  | no => rfl
theorem uhw {L : List Box} {bx : σ → Box} {enc : α → PV} {r : Res σ α} : outK c H L bx enc r = elimK c H L r fun v s => some (.ok (enc v) (St H c (bx s) L)) := nrfl rfl
theorem uhh {L : List Box} {bx : σ → Box} {enc : α → PV} {v : α} {s : σ} : outK c H L bx enc (.ok v s) = some (.ok (enc v) (St H c (bx s) L)) := nrfl rfl
theorem ug6 {L : List Box} {bx : σ → Box} {enc : α → PV} {t : TypeId} {l : List Int} : outK c H L bx enc (Res.err t l : Res σ α) = some (.pan (fltP t l) (St H c .dead L)) := nrfl rfl
theorem ujh {L : List Box} {bx : σ → Box} {enc : α → PV} : outK c H L bx enc (Res.no : Res σ α) = none := nrfl rfl
theorem ue6 {γ : Type} {L : List Box} {g : α → σ → Option (Out γ)} : elimK c H L (Res.no : Res σ α) g = none := nrfl rfl
theorem ub0 {τ : Type} {β : Type} {L : List Box} {bx : σ → Box} {enc : α → PV} {r : Res τ β} {g : β → τ → Res σ α} : outK c H L bx enc (r.bind g) = elimK c H L r fun v s => outK c H L bx enc (g v s) := by cases r <;> rfl
theorem ufy {L : List Box} {bx : σ → Box} {enc : α → PV} {p : Prop} [Decidable p] {r r' : Res σ α} : outK c H L bx enc (if p then r else r') = if p then outK c H L bx enc r else outK c H L bx enc r' := by split <;> rfl
theorem uez {γ : Type} {L : List Box} {v : α} {s : σ} {g : α → σ → Option (Out γ)} : elimK c H L (.ok v s) g = g v s := nrfl rfl
theorem ubm {γ : Type} {L : List Box} {t : TypeId} {l : List Int} {g : α → σ → Option (Out γ)} : elimK c H L (Res.err t l : Res σ α) g = some (.pan (fltP t l) (St H c .dead L)) := nrfl rfl
theorem ucp {γ : Type} {L : List Box} {p : Prop} [Decidable p] {r r' : Res σ α} {g : α → σ → Option (Out γ)} : elimK c H L (if p then r else r') g = if p then elimK c H L r g else elimK c H L r' g := by split <;> rfl
theorem u9m {γ τ β : Type} {L : List Box} {r : Res τ β} {f : β → τ → Res σ α} {g : α → σ → Option (Out γ)} : elimK c H L (r.bind f) g = elimK c H L r fun v s => elimK c H L (f v s) g := by cases r <;> rfl
theorem uec {v : α} : killR c (some (.ok v H)) = some (.ok v H) := nrfl rfl
theorem u99 : killR c (none : Option (Out α)) = none := nrfl rfl
theorem u7w {v : PV} : killR c (some (.pan v H) : Option (Out α)) = some (.pan v (hset H c .dead)) := nrfl rfl
theorem ubf {p : Prop} [Decidable p] {r r' : Option (Out α)} : killR c (if p then r else r') = if p then killR c r else killR c r' := by split <;> rfl
theorem ubz {m : M α} {f : α → M β} : runK c (M.bind m f) H = bindK c (runK c m H) f := by
  unfold runK
  rw [run_bind]
  cases run m H with
  | none => rfl
  | some q => cases q <;> rfl
theorem ufk {f : α → M β} {v : α} : bindK c (some (.ok v H)) f = runK c (f v) H := nrfl rfl
theorem u94 {f : α → M β} : bindK c none f = none := nrfl rfl
theorem ucn {f : α → M β} {v : PV} : bindK c (some (.pan v H)) f = some (.pan v H) := nrfl rfl
theorem ub2 {p : Prop} [Decidable p] {r r' : Option (Out α)} {f : α → M β} : bindK c (if p then r else r') f = if p then bindK c r f else bindK c r' f := by split <;> rfl
theorem u98 {L : List Box} {r : Res σ α} {g : α → σ → Option (Out PV)} {f : PV → M β} : bindK c (elimK c H L r g) f = elimK c H L r fun v s => bindK c (g v s) f := by cases r <;> rfl
noncomputable def nbK (c : Nat) (H : Heap) (r : Option (Out α)) (f : α → M β) : Option (Out β) := killR c (nbR H r f)
@[congr] theorem ulm {r r' : Option (Out α)} {f : α → M β} (h : r = r') : nbK c H r f = nbK c H r' f := by rw [h]
theorem uis {m : M α} {f : α → M β} : runK c (nb m f) H = nbK c H (runK c m H) f := by
  unfold nbK runK nbR run nb killR
  dsimp only
  cases m H with
  | none => rfl
  | some q => cases q <;> rfl
theorem nbK_ok {f : α → M β} {v : α} : nbK c H (some (.ok v H)) f = runK c (f v) H := by
  unfold nbK
  rw [nbR_ok]
  rfl
theorem ug1 {f : α → M β} : nbK c H none f = none := by
  unfold nbK nbR nb
  rfl
theorem uj3 {p : Prop} [Decidable p] {r r' : Option (Out α)} {f : α → M β} : nbK c H (if p then r else r') f = if p then nbK c H r f else nbK c H r' f := by split <;> rfl
theorem ugd {m : M PV} (hc : c < List.length H) : runK c (trunc m) H = truncR H (runK c m H) := by
  unfold runK
  rw [u7y]
  cases run m H with
  | none => rfl
  | some q => cases q with
    | ok v K => rfl
    | pan v K =>
      show killR c (bif v.low H.length then some (Out.pan v (hcut K H.length)) else none) = (bif v.low H.length then some (Out.pan v (hcut (hset K c .dead) H.length)) else none)
      cases v.low H.length with
      | false => rfl
      | true =>
        simp only [cond_true, u7w, Option.some.injEq, Out.pan.injEq, true_and]
        unfold hset hcut
        rw [List.take_set]
theorem u90 {p : Bool} {m : M α} : runK c (guardM p m) H = if p = true then runK c m H else none := by cases p <;> rfl
theorem ucv {v : PV} {m : M PV} : runK c (resT v m) H = if isTup v = true then none else runK c m H := by unfold resT; cases isTup v <;> rfl
theorem ub9 {p : Bool} {x y : M α} : runK c (condM (.bool p) x y) H = if p = true then runK c x H else runK c y H := by cases p <;> rfl
theorem ufn {p : Bool} {m : M PV} : runK c (gd (.bool p) true m) H = if p = true then runK c m H else some (.ok (.tup []) H) := by cases p <;> rfl
theorem uff {p : Bool} {m : M PV} : runK c (gd (.bool p) false m) H = if p = true then some (.ok (.tup []) H) else runK c m H := by cases p <;> rfl
theorem uem {b : Bool} {m : M PV} : runK c (gd (.tup []) b m) H = some (.ok (.tup []) H) := nrfl rfl
theorem uar {v : α} : runK c (M.pure v) H = some (.ok v H) := nrfl rfl
theorem uf3 {v : PV} : runK c (M.pan v : M α) H = some (.pan v (hset H c .dead)) := nrfl rfl
theorem uaq : runK c (M.fail : M α) H = none := nrfl rfl
theorem u8y {m : M PV} : runK c (noPan m) H = noPanR (run m H) := by
  unfold runK
  rw [u7s]
  cases run m H with
  | none => rfl
  | some q => cases q <;> rfl
noncomputable def chkK (c : Nat) (r r' : Option (Out α)) (x : M β) (H : Heap) : Option (Out β) := killR c (chkR r r' x H)
@[congr] theorem ulj {r r' s s' : Option (Out α)} {x : M β} (h : r = s) (h' : r' = s') : chkK c r r' x H = chkK c s s' x H := by rw [h, h']
theorem ufl {m m' : M α} {x : M β} : runK c (chk m m' x) H = chkK c (run m H) (run m' H) x H := nrfl rfl
theorem uic {a : α} {K : Heap} {x : M β} : chkK c (some (.ok a K)) (some (.ok a K)) x H = runK c x H := by
  unfold chkK
  rw [udy]
  rfl
theorem uc6 {r : Option (Out α)} {x : M β} : chkK c none r x H = none := by
  unfold chkK chkR run chk
  rfl
theorem ued {p : Prop} [Decidable p] {r r' s : Option (Out α)} {x : M β} : chkK c (if p then r else r') s x H = if p then chkK c r s x H else chkK c r' s x H := by split <;> rfl
theorem ub3 {r : Option (Out α)} {x : M β} : chkR none r x H = none := by
  unfold chkR run chk
  rfl
theorem uf0 {p : Prop} [Decidable p] {r r' s : Option (Out α)} {x : M β} : chkR (if p then r else r') s x H = if p then chkR r s x H else chkR r' s x H := by split <;> rfl
section
variable {n : Nat} {id o : Nat} {x y v i : PV} {cs : List PV} {m : Option Nat} {mv b : Bool} {L : List Box}
theorem uhi : runK c (al cs) H = killR c (run (al cs) H) := nrfl rfl
theorem uia : runK c (bx n v) H = killR c (run (bx n v) H) := nrfl rfl
theorem uje : runK c (ld m mv v) H = killR c (run (ld m mv v) H) := nrfl rfl
theorem ugy : runK c (st n mv x v) H = killR c (run (st n mv x v) H) := nrfl rfl
theorem uft : runK c (iaS n x i) H = killR c (run (iaS n x i) H) := nrfl rfl
theorem uen {len : Nat} : runK c (ixA len n m x i) H = killR c (run (ixA len n m x i) H) := nrfl rfl
theorem ubd : runK c (pick v x y) H = killR c (run (pick v x y) H) := nrfl rfl
theorem uh7 {t : TypeId} : runK c (mi t v) H = killR c (run (mi t v) H) := nrfl rfl
theorem uiv {t : FuncId} {l l' : List PV} : runK c (mf t l l') H = killR c (run (mf t l l') H) := nrfl rfl
theorem uio {z : List PV} {ps : List (Nat × Nat × PV)} : runK c (bd z ps) H = killR c (run (bd z ps) H) := nrfl rfl
theorem uh1 {l : List PV} : runK c (bs b m l) H = killR c (run (bs b m l) H) := nrfl rfl
theorem uhd {k : Nat} : runK c (ap b n k x y) H = killR c (run (ap b n k x y) H) := nrfl rfl
theorem ui3 {k : Nat} : runK c (mk b n k x y) H = killR c (run (mk b n k x y) H) := nrfl rfl
theorem uey : runK c (lnS x) H = killR c (run (lnS x) H) := nrfl rfl
theorem ufw : runK c (lnL x) H = killR c (run (lnL x) H) := nrfl rfl
theorem uea : runK c (ixS x i) H = killR c (run (ixS x i) H) := nrfl rfl
theorem ufo {lo hi : Option PV} : runK c (slS x lo hi) H = killR c (run (slS x lo hi) H) := nrfl rfl
theorem ufa {lo hi : Option PV} : runK c (slL n x lo hi) H = killR c (run (slL n x lo hi) H) := nrfl rfl
theorem ui7 {k : Cv} : runK c (cv k b x) H = killR c (run (cv k b x) H) := nrfl rfl
theorem uhp : runK c (ex n x) H = killR c (run (ex n x) H) := nrfl rfl
theorem uj2 {op : BinOp} {ek : EqK} : runK c (bi op ek x y) H = killR c (run (bi op ek x y) H) := nrfl rfl
theorem len_St {x : Box} : List.length (St H c x L) = List.length H + List.length L := by unfold St; rw [uda, u53]
theorem get_St {x : Box} (hc : c < List.length H) : hget (St H c x L) c = some x := by unfold St; rw [ua2 hc, ud2 hc]
theorem uip {x : Box} (k : Nat) : hget (St H c x L) (List.length H + k) = nth L k := u6k k
theorem ug4 {x : Box} : hget (St H c x L) (List.length H) = nth L 0 := u79
theorem set_St {x y : Box} (hc : c < List.length H) : hset (St H c x L) c y = St H c y L := by unfold St; rw [ua1 hc, set_set]
theorem uh2 {x y : Box} (k : Nat) : hset (St H c x L) (List.length H + k) y = St H c x (L.set k y) := u6q k
theorem ueb {x y : Box} : hset (St H c x L) (List.length H) y = St H c x (L.set 0 y) := u8e
theorem add_St {x : Box} {K : List Box} : hadd (St H c x L) K = St H c x (L ++ K) := ud4
theorem cut_St {x : Box} : hcut (St H c x L) (List.length H) = St H c x [] := by
  unfold St
  rw [cutA1]
  exact (List.append_nil _).symm
theorem u83 {r : Res σ α} {bx : Box} {g : α → σ → Option (Out PV)} : truncR (St H c bx []) (elimK c H L r g) = elimK c H [] r fun v s => truncR (St H c bx []) (g v s) := by
  cases r with
  | ok v s => rfl
  | err t l =>
    show truncR (St H c bx []) (some (Out.pan (fltP t l) (St H c .dead L))) = some (Out.pan (fltP t l) (St H c .dead []))
    rw [u5s, if_pos uaf, len_St, List.length_nil, Nat.add_zero, cut_St]
  | no => rfl
theorem u7j {m : M PV} {x : Box} (hc : c < List.length H) : runK c (trunc m) (St H c x L) = truncR (St H c x L) (runK c m (St H c x L)) := ugd (by rw [len_St]; omega)
theorem uif {bx : σ → Box} {enc : α → PV} {v : α} {s : σ} : outS c H L bx enc (v, s) = some (.ok (enc v) (St H c (bx s) L)) := nrfl rfl
theorem ugx {bx : σ → Box} {enc : α → PV} {r : α × σ} {f : PV → M β} : bindR (outS c H L bx enc r) f = run (f (enc r.1)) (St H c (bx r.2) L) := nrfl rfl
end
end Go.Proofs.YtiiepllnnjjmaaaDoor.Pi
namespace Go.Proofs.YtiiepllnnjjmaaaDoor.Pi
theorem kDown : type_of% (And.intro (And.intro (And.intro (And.intro (And.intro @uhh @ug6) (And.intro @ujh (And.intro @ue6 @ub0))) (And.intro
    (And.intro @ufy @uez) (And.intro @ubm (And.intro @ucp @u9m)))) (And.intro (And.intro (And.intro @uec @u99)
    (And.intro @u7w (And.intro @ubf @ubz))) (And.intro (And.intro @ufk (And.intro @u94 @ucn)) (And.intro @ub2
    (And.intro @u98 @u83))))) (And.intro (And.intro (And.intro (And.intro @uis @nbK_ok) (And.intro @ug1 (And.intro @uj3
    @u7j))) (And.intro (And.intro @u90 (And.intro @ucv @ub9)) (And.intro @ufn (And.intro @uff @uem))))
    (And.intro (And.intro (And.intro @uar @uf3) (And.intro @uaq (And.intro @u8y @ufl))) (And.intro (And.intro @uic
    (And.intro @uc6 @ued)) (And.intro @ub3 (And.intro @uf0 @ugx)))))) := (And.intro (And.intro (And.intro (And.intro (And.intro @uhh @ug6) (And.intro @ujh (And.intro @ue6 @ub0))) (And.intro
    (And.intro @ufy @uez) (And.intro @ubm (And.intro @ucp @u9m)))) (And.intro (And.intro (And.intro @uec @u99)
    (And.intro @u7w (And.intro @ubf @ubz))) (And.intro (And.intro @ufk (And.intro @u94 @ucn)) (And.intro @ub2
    (And.intro @u98 @u83))))) (And.intro (And.intro (And.intro (And.intro @uis @nbK_ok) (And.intro @ug1 (And.intro @uj3
    @u7j))) (And.intro (And.intro @u90 (And.intro @ucv @ub9)) (And.intro @ufn (And.intro @uff @uem))))
    (And.intro (And.intro (And.intro @uar @uf3) (And.intro @uaq (And.intro @u8y @ufl))) (And.intro (And.intro @uic
    (And.intro @uc6 @ued)) (And.intro @ub3 (And.intro @uf0 @ugx))))))
theorem kUp : type_of% (And.intro (And.intro (And.intro (And.intro (And.intro @uhw @uif) (And.intro @uhv @uaf)) (And.intro (And.intro @uhi @uia)
    (And.intro @uje @ugy))) (And.intro (And.intro (And.intro @uft @uen) (And.intro @ubd @uh7)) (And.intro (And.intro
    @uiv @uio) (And.intro @uh1 (And.intro @uhd @ui3))))) (And.intro (And.intro (And.intro (And.intro @uey @ufw)
    (And.intro @uea @ufo)) (And.intro (And.intro @ufa @ui7) (And.intro @uhp @uj2))) (And.intro (And.intro (And.intro @len_St
    @get_St) (And.intro @uip @ug4)) (And.intro (And.intro @set_St @uh2) (And.intro @ueb (And.intro @add_St @cut_St)))))) := (And.intro (And.intro (And.intro (And.intro (And.intro @uhw @uif) (And.intro @uhv @uaf)) (And.intro (And.intro @uhi @uia)
    (And.intro @uje @ugy))) (And.intro (And.intro (And.intro @uft @uen) (And.intro @ubd @uh7)) (And.intro (And.intro
    @uiv @uio) (And.intro @uh1 (And.intro @uhd @ui3))))) (And.intro (And.intro (And.intro (And.intro @uey @ufw)
    (And.intro @uea @ufo)) (And.intro (And.intro @ufa @ui7) (And.intro @uhp @uj2))) (And.intro (And.intro (And.intro @len_St
    @get_St) (And.intro @uip @ug4)) (And.intro (And.intro @set_St @uh2) (And.intro @ueb (And.intro @add_St @cut_St))))))
end Go.Proofs.YtiiepllnnjjmaaaDoor.Pi
namespace Go.Proofs.YtiiepllnnjjmaaaDoor.Pi
variable {α β : Type} {H : Heap}
theorem u2c {n o : Nat} : u05 (.ptr n o) = .al n := nrfl rfl
theorem u4q {n : Nat} : isAlT (.al n) = true := nrfl rfl
theorem u4p {n : Nat} : isAlT (.ld n) = false := nrfl rfl
theorem u4e {n : Nat} : isAlT (.st n) = false := nrfl rfl
theorem u33 : isAlT .any = false := nrfl rfl
theorem u4n : isAlT .no = false := nrfl rfl
theorem u2b {n i : Nat} : clash (.al n) (.ld i) = false := nrfl rfl
theorem u29 {n i : Nat} : clash (.al n) (.st i) = false := nrfl rfl
theorem u28 {n i : Nat} : clash (.al n) (.al i) = true := nrfl rfl
theorem u2d {n i : Nat} : clash (.ld i) (.al n) = decide (n ≤ i) := nrfl rfl
theorem u2a {n i : Nat} : clash (.st i) (.al n) = decide (n ≤ i) := nrfl rfl
noncomputable def chkAR (r2 r1 : Option (Out Env)) (x : M β) (H : Heap) : Option (Out β) := run (chkA (fun _ => r2) (fun _ => r1) x) H
@[congr] theorem ul3 {r r' s s' : Option (Out Env)} {x : M β} (h : r = s) (h' : r' = s') : chkAR r r' x H = chkAR s s' x H := by rw [h, h']
theorem u4d {m2 m1 : M Env} {x : M β} : run (chkA m2 m1 x) H = chkAR (run m2 H) (run m1 H) x H := nrfl rfl
open Classical in
theorem u4b {e1 e2 : Env} {H1 H2 : Heap} {x : M β} : chkAR (some (.ok e2 H2)) (some (.ok e1 H1)) x H = if u56 H.length e1 H1 e2 H2 then run x H else none := by
  unfold chkAR run chkA
  rfl
def renL (n : Nat) : List PV → List PV → Prop
  | [], [] => True
  | p :: l, q :: m => renV n p q ∧ renL n l m
  | _, _ => False
theorem uei {n : Nat} : ∀ {l m : List PV}, renL n l m → l.length = m.length ∧ ∀ t, renV n (l.getD t .undef) (m.getD t .undef)
  | [], [], _ => ⟨rfl, fun t => .inl ⟨rfl, rfl⟩⟩
  | p :: l, q :: m, h => by
    obtain ⟨h1, h2⟩ := uei h.2
    refine ⟨by simp [h1], fun t => ?_⟩
    cases t with
    | zero => exact h.1
    | succ t => exact h2 t
  | [], q :: m, h => h.elim
  | p :: l, [], h => h.elim
theorem ugl {n : Nat} {e1 e2 : Env} {H0 : Heap} {x1 x2 : List PV} (hn : H0.length = n) (hx : (x1 ++ x2).all (fun c => c.low n) = true) (hs : (x1 ++ x2).map stripC = x1 ++ x2) (he : renL n e1 e2) : u56 n e1 (H0 ++ [.cells x1, .cells x2]) e2 (H0 ++ [.cells x2, .cells x1]) := by
  obtain ⟨h1, h2⟩ := uei he
  refine ⟨H0, x1, x2, hn, rfl, rfl, fun c hc => ⟨List.all_eq_true.mp hx c hc, ?_⟩, h1, h2⟩
  obtain ⟨j, hj⟩ := List.getElem?_of_mem hc
  have := congrArg (fun l => l[j]?) hs
  simp only [List.getElem?_map, hj, Option.map_some, Option.some.injEq] at this
  exact this
theorem u34 {n : Nat} {p : PV} : renV n p p = (p.low n = true) := by
  unfold renV
  rw [eq_iff_iff]
  constructor
  · rintro (⟨_, h⟩ | ⟨o, h1, h2⟩ | ⟨o, h1, h2⟩)
    · exact h
    · rw [h1] at h2; injection h2 with h2; omega
    · rw [h1] at h2; injection h2 with h2; omega
  · exact fun h => .inl ⟨rfl, h⟩
theorem ulh {n o : Nat} : renV n (.ptr n o) (.ptr (n + 1) o) = True := eq_true (.inr (.inl ⟨o, rfl, rfl⟩))
theorem ugv {n o : Nat} : renV n (.ptr (n + 1) o) (.ptr n o) = True := eq_true (.inr (.inr ⟨o, rfl, rfl⟩))
theorem u4h {n o : Nat} : renV (n + 2) (.ptr (n + 2) o) (.ptr (n + 3) o) = True := ulh
theorem u2q {n o : Nat} : renV (n + 2) (.ptr (n + 3) o) (.ptr (n + 2) o) = True := ugv
theorem u4r {n : Nat} : renL n [] [] = True := rfl
theorem u3c {n : Nat} {p q : PV} {l m : List PV} : renL n (p :: l) (q :: m) = (renV n p q ∧ renL n l m) := rfl
theorem ubh {n : Nat} : ∀ {l m : List PV}, l.length = m.length → (∀ t, renV n (l.getD t .undef) (m.getD t .undef)) → renL n l m
  | [], [], _, _ => True.intro
  | p :: l, q :: m, h, k => ⟨k 0, ubh (by simpa using h) fun t => k (t + 1)⟩
  | [], q :: m, h, _ => by cases h
  | p :: l, [], h, _ => by cases h
theorem u4s {e1 e2 : Env} {b1 b2 : Box} {x1 x2 : List PV} : u56 (List.length H + 2) e1 (hadd H [b1, b2, .cells x1, .cells x2]) e2 (hadd H [b1, b2, .cells x2, .cells x1]) =
    (((x1 ++ x2).all (fun c => c.low (List.length H + 2)) = true ∧ (x1 ++ x2).map stripC = x1 ++ x2) ∧ renL (List.length H + 2) e1 e2) := by
  rw [eq_iff_iff]
  constructor
  · rintro ⟨H0, y1, y2, hn, h1, h2, hx, hl, hr⟩
    have h1 : (H ++ [b1, b2]) ++ [.cells x1, .cells x2] = H0 ++ [.cells y1, .cells y2] := by rw [← h1]; unfold hadd; simp
    obtain ⟨_, h3⟩ := List.append_inj h1 (by simp [hn])
    simp only [List.cons.injEq, Box.cells.injEq, and_true] at h3
    obtain ⟨rfl, rfl⟩ := h3
    refine ⟨⟨List.all_eq_true.mpr fun c hc => (hx c hc).1, ?_⟩, ubh hl hr⟩
    have : ∀ l : List PV, (∀ c ∈ l, stripC c = c) → l.map stripC = l := fun l => by
      induction l with
      | nil => intro _; rfl
      | cons a l ih => intro h; rw [List.map_cons, h a List.mem_cons_self, ih fun c hc => h c (List.mem_cons_of_mem _ hc)]
    exact this _ fun c hc => (hx c hc).2
  · rintro ⟨⟨h1, h2⟩, h3⟩
    have := ugl (H0 := H ++ [b1, b2]) (n := List.length H + 2) (x1 := x1) (x2 := x2) (e1 := e1) (e2 := e2) (by simp) h1 h2 h3
    unfold hadd
    simpa using this
theorem u5m {n k : Nat} : (n == n + (k + 1)) = false := by simp
theorem len_ne {n k j : Nat} : (n + k == n + j) = (k == j) := by rw [Bool.eq_iff_iff]; simp
end Go.Proofs.YtiiepllnnjjmaaaDoor.Pi
namespace Go.Proofs.YtiiepllnnjjmaaaDoor.Pi.Q
open Go Go.Proofs.YtiiepllnnjjmaaaDoor.Pi
noncomputable abbrev P : Program := Tryd.prog
noncomputable abbrev X : ExtT := fun _ => none
noncomputable abbrev C := callW P X
noncomputable abbrev CD := callDW P X
abbrev u1u : FuncId := 3
abbrev u1f : FuncId := 6
abbrev u1a : FuncId := 7
abbrev u2s : FuncId := 8
abbrev u1o : FuncId := 9
abbrev u30 : FuncId := 10
abbrev u1p : FuncId := 11
abbrev u3h : FuncId := 12
abbrev u13 : FuncId := 13
abbrev u22 : FuncId := 14
abbrev u1b : FuncId := 15
abbrev u1t : FuncId := 16
abbrev u0x : FuncId := 21
abbrev u0z : FuncId := 29
abbrev u23 : FuncId := 30
abbrev u3w : FuncId := 31
abbrev u0r : FuncId := 34
abbrev u0y : FuncId := 35
abbrev u18 : FuncId := 42
abbrev u19 : FuncId := 43
abbrev u1r : FuncId := 44
abbrev u0j : FuncId := 45
abbrev u14 : FuncId := 46
abbrev u3q : FuncId := 47
abbrev u2r : FuncId := 48
end Go.Proofs.YtiiepllnnjjmaaaDoor.Pi.Q
namespace Go.Proofs.YtiiepllnnjjmaaaDoor.Pi.Q
open Go Go.Proofs.YtiiepllnnjjmaaaDoor.Pi
theorem u2v (a0 a1 a2 a3 : PV) : C u1u [a0, a1, a2, a3] =
 trunc (M.bind (bx 3 a0) fun t4_0 =>
 M.bind (bx 3 a1) fun t5_1 =>
 M.bind (bx 2 a2) fun t6_2 =>
 M.bind (bx 2 a3) fun t7_3 =>
 nb (ld (some 3) false t4_0) fun t9_4 =>
 nb (ld (some 3) false t5_1) fun t10_5 =>
 nb (C u1f [(strip t9_4), (strip t10_5)]) fun t11_6 =>
 nb (ld (some 3) false t4_0) fun t12_7 =>
 nb (ld (some 3) false t5_1) fun t13_8 =>
 nb (C u1a [(strip t12_7), (strip t13_8)]) fun t14_9 =>
 nb (bi .eql .bool t11_6 t14_9) fun t15_10 =>
 nb (gd (strip t15_10) true (ld (some 3) false t4_0)) fun t17_11 =>
 nb (gd (strip t15_10) true (C u2s [(strip t17_11)])) fun t18_12 =>
 nb (gd (strip t15_10) true (ld (some 3) false t4_0)) fun t19_13 =>
 nb (gd (strip t15_10) true (C u1o [(strip t19_13)])) fun t20_14 =>
 nb (gd (strip t15_10) true (bi .eql .bool t18_12 t20_14)) fun t21_15 =>
 nb (pick (strip t15_10) t21_15 (.bool false)) fun t22_16 =>
 nb (gd (strip t22_16) true (ld (some 3) false t4_0)) fun t24_17 =>
 nb (gd (strip t22_16) true (C u30 [(strip t24_17)])) fun t25_18 =>
 nb (gd (strip t22_16) true (ld (some 3) false t4_0)) fun t26_19 =>
 nb (gd (strip t22_16) true (C u1p [(strip t26_19)])) fun t27_20 =>
 nb (gd (strip t22_16) true (bi .eql (.struct [.int, .bool, .int]) t25_18 t27_20)) fun t28_21 =>
 nb (pick (strip t22_16) t28_21 (.bool false)) fun t29_22 =>
 nb (gd (strip t29_22) true (ld (some 3) false t4_0)) fun t31_23 =>
 nb (gd (strip t29_22) true (C u3h [(strip t31_23)])) fun t32_24 =>
 nb (gd (strip t29_22) true (ld (some 3) false t4_0)) fun t33_25 =>
 nb (gd (strip t29_22) true (C u13 [(strip t33_25)])) fun t34_26 =>
 nb (gd (strip t29_22) true (bi .eql .none t32_24 t34_26)) fun t35_27 =>
 nb (pick (strip t29_22) t35_27 (.bool false)) fun t36_28 =>
 nb (gd (strip t36_28) true (ld (some 2) false t6_2)) fun t38_29 =>
 nb (gd (strip t36_28) true (ld (some 2) false t7_3)) fun t39_30 =>
 nb (gd (strip t36_28) true (C u22 [(strip t38_29), (strip t39_30)])) fun t40_31 =>
 nb (gd (strip t36_28) true (ld (some 2) false t6_2)) fun t41_32 =>
 nb (gd (strip t36_28) true (ld (some 2) false t7_3)) fun t42_33 =>
 nb (gd (strip t36_28) true (C u1b [(strip t41_32), (strip t42_33)])) fun t43_34 =>
 nb (gd (strip t36_28) true (bi .eql .bool t40_31 t43_34)) fun t44_35 =>
 nb (pick (strip t36_28) t44_35 (.bool false)) fun t45_36 =>
 nb (gd (strip t45_36) true (ld (some 2) false t6_2)) fun t47_37 =>
 nb (gd (strip t45_36) true (ld (some 2) false t6_2)) fun t48_38 =>
 nb (gd (strip t45_36) true (C u22 [(strip t47_37), (strip t48_38)])) fun t49_39 =>
 nb (pick (strip t45_36) t49_39 (.bool false)) fun t50_40 =>
 nb (gd (strip t50_40) true (ld (some 3) false t5_1)) fun t52_41 =>
 nb (gd (strip t50_40) true (ld (some 3) false t5_1)) fun t53_42 =>
 nb (gd (strip t50_40) true (C u1f [(strip t52_41), (strip t53_42)])) fun t54_43 =>
 nb (pick (strip t50_40) t54_43 (.bool false)) fun t55_44 =>
 nb (gd (strip t55_44) true (C u1t [])) fun t57_45 =>
 nb (pick (strip t55_44) t57_45 (.bool false)) fun t58_46 =>
 resT t58_46 (M.pure t58_46)) := by
 rw [C, u0p _ _ rfl]; kernel_rfl
theorem uag (a0 a1 : PV) : C u1f [a0, a1] =
 trunc (M.bind (bx 3 a0) fun t2_0 =>
 M.bind (bx 3 a1) fun t3_1 =>
 M.bind (fa 0 t2_0) fun t5_2 =>
 M.bind (ld none false t5_2) fun t6_3 =>
 M.bind (bi .neq .none t6_3 (.int .i64 5)) fun t7_4 =>
 M.bind (gd (strip t7_4) false (fa 0 t3_1)) fun t9_5 =>
 M.bind (gd (strip t7_4) false (ld none false t9_5)) fun t10_6 =>
 M.bind (gd (strip t7_4) false (bi .neq .none t10_6 (.int .i64 5))) fun t11_7 =>
 M.bind (pick (strip t7_4) (.bool true) t11_7) fun t12_8 =>
 condM t12_8
 (M.bind (fa 0 t2_0) fun t13_9 =>
 M.bind (ld none false t13_9) fun t14_10 =>
 M.bind (fa 0 t3_1) fun t15_11 =>
 M.bind (ld none false t15_11) fun t16_12 =>
 M.bind (bi .eql .none t14_10 t16_12) fun t17_13 =>
 resT t17_13 (M.pure t17_13))
 (M.bind (ld (some 3) false t2_0) fun t18_14 =>
 M.bind (ld (some 3) false t3_1) fun t19_15 =>
 M.bind (bi .eql (.struct [.int, .bool, .int]) t18_14 t19_15) fun t20_16 =>
 resT t20_16 (M.pure t20_16))) := by
 rw [C, u0p _ _ rfl]; kernel_rfl
theorem u4t (a0 a1 : PV) : C u1a [a0, a1] =
 trunc (M.bind (bx 3 a0) fun t2_0 =>
 M.bind (bx 3 a1) fun t3_1 =>
 M.bind (fa 0 t2_0) fun t5_2 =>
 M.bind (ld none false t5_2) fun t6_3 =>
 M.bind (fa 0 t3_1) fun t7_4 =>
 M.bind (ld none false t7_4) fun t8_5 =>
 M.bind (bi .eql .none t6_3 t8_5) fun t9_6 =>
 M.bind (gd (strip t9_6) true (fa 0 t2_0)) fun t11_7 =>
 M.bind (gd (strip t9_6) true (ld none false t11_7)) fun t12_8 =>
 M.bind (gd (strip t9_6) true (bi .neq .none t12_8 (.int .i64 5))) fun t13_9 =>
 M.bind (gd (strip t9_6) true (M.pure (strip t13_9))) fun t14_10 =>
 M.bind (gd t14_10 false (fa 1 t2_0)) fun t15_11 =>
 M.bind (gd t14_10 false (ld none false t15_11)) fun t16_12 =>
 M.bind (gd t14_10 false (fa 1 t3_1)) fun t17_13 =>
 M.bind (gd t14_10 false (ld none false t17_13)) fun t18_14 =>
 M.bind (gd t14_10 false (bi .eql .bool t16_12 t18_14)) fun t19_15 =>
 M.bind (gd t14_10 false (M.pure (strip t19_15))) fun t20_16 =>
 M.bind (gd t20_16 true (fa 2 t2_0)) fun t21_17 =>
 M.bind (gd t20_16 true (ld none false t21_17)) fun t22_18 =>
 M.bind (gd t20_16 true (fa 2 t3_1)) fun t23_19 =>
 M.bind (gd t20_16 true (ld none false t23_19)) fun t24_20 =>
 M.bind (gd t20_16 true (bi .eql .none t22_18 t24_20)) fun t25_21 =>
 M.bind (gd t14_10 false (pick t20_16 t25_21 (.bool false))) fun t26_22 =>
 M.bind (gd (strip t9_6) true (pick t14_10 (.bool true) t26_22)) fun t27_23 =>
 M.bind (pick (strip t9_6) t27_23 (.bool false)) fun t28_24 =>
 resT t28_24 (M.pure t28_24)) := by
 rw [C, u0p _ _ rfl]; kernel_rfl
theorem u6f (a0 : PV) : C u2s [a0] =
 trunc (M.bind (bx 3 a0) fun t1_0 =>
 M.bind (fa 0 t1_0) fun t3_1 =>
 M.bind (ld none false t3_1) fun t4_2 =>
 M.bind (bi .eql .none t4_2 (.int .i64 5)) fun t5_3 =>
 condM t5_3
 (M.bind (fa 1 t1_0) fun t6_4 =>
 M.bind (ld none true t6_4) fun t7_5 =>
 resT t7_5 (M.pure t7_5))
 (M.bind (fa 0 t1_0) fun t8_6 =>
 M.bind (ld none false t8_6) fun t9_7 =>
 M.bind (bi .geq .none t9_7 (.int .i64 1)) fun t10_8 =>
 M.bind (gd (strip t10_8) true (fa 0 t1_0)) fun t12_9 =>
 M.bind (gd (strip t10_8) true (ld none false t12_9)) fun t13_10 =>
 M.bind (gd (strip t10_8) true (bi .leq .none t13_10 (.int .i64 7))) fun t14_11 =>
 M.bind (pick (strip t10_8) t14_11 (.bool false)) fun t15_12 =>
 resT t15_12 (M.pure t15_12))) := by
 rw [C, u0p _ _ rfl]; kernel_rfl
theorem u3e (a0 : PV) : C u1o [a0] =
 trunc (M.bind (bx 3 a0) fun t1_0 =>
 M.bind (fa 0 t1_0) fun t3_1 =>
 M.bind (ld none false t3_1) fun t4_2 =>
 M.bind (bi .geq .none t4_2 (.int .i64 1)) fun t5_3 =>
 M.bind (gd (strip t5_3) true (fa 0 t1_0)) fun t7_4 =>
 M.bind (gd (strip t5_3) true (ld none false t7_4)) fun t8_5 =>
 M.bind (gd (strip t5_3) true (bi .leq .none t8_5 (.int .i64 4))) fun t9_6 =>
 M.bind (pick (strip t5_3) t9_6 (.bool false)) fun t10_7 =>
 M.bind (gd (strip t10_7) false (fa 0 t1_0)) fun t12_8 =>
 M.bind (gd (strip t10_7) false (ld none false t12_8)) fun t13_9 =>
 M.bind (gd (strip t10_7) false (bi .eql .none t13_9 (.int .i64 6))) fun t14_10 =>
 M.bind (pick (strip t10_7) (.bool true) t14_10) fun t15_11 =>
 M.bind (gd (strip t15_11) false (fa 0 t1_0)) fun t17_12 =>
 M.bind (gd (strip t15_11) false (ld none false t17_12)) fun t18_13 =>
 M.bind (gd (strip t15_11) false (bi .eql .none t18_13 (.int .i64 7))) fun t19_14 =>
 M.bind (pick (strip t15_11) (.bool true) t19_14) fun t20_15 =>
 M.bind (gd (strip t20_15) false (fa 0 t1_0)) fun t22_16 =>
 M.bind (gd (strip t20_15) false (ld none false t22_16)) fun t23_17 =>
 M.bind (gd (strip t20_15) false (bi .eql .none t23_17 (.int .i64 5))) fun t24_18 =>
 M.bind (gd (strip t20_15) false (M.pure (strip t24_18))) fun t25_19 =>
 M.bind (gd t25_19 true (fa 1 t1_0)) fun t26_20 =>
 M.bind (gd t25_19 true (ld none false t26_20)) fun t27_21 =>
 M.bind (gd (strip t20_15) false (pick t25_19 t27_21 (.bool false))) fun t28_22 =>
 M.bind (pick (strip t20_15) (.bool true) t28_22) fun t29_23 =>
 resT t29_23 (M.pure t29_23)) := by
 rw [C, u0p _ _ rfl]; kernel_rfl
theorem u7c (a0 : PV) : C u30 [a0] =
 trunc (M.bind (bx 3 a0) fun t1_0 =>
 M.bind (al [(.int .i64 0), (.bool false), (.int .i64 0)]) fun t2_1 =>
 M.bind (fa 0 t1_0) fun t3_2 =>
 M.bind (ld none false t3_2) fun t4_3 =>
 M.bind (bi .eql .none t4_3 (.int .i64 6)) fun t5_4 =>
 M.bind (gd (strip t5_4) false (fa 0 t1_0)) fun t7_5 =>
 M.bind (gd (strip t5_4) false (ld none false t7_5)) fun t8_6 =>
 M.bind (gd (strip t5_4) false (bi .eql .none t8_6 (.int .i64 7))) fun t9_7 =>
 M.bind (pick (strip t5_4) (.bool true) t9_7) fun t10_8 =>
 condM t10_8
 (M.bind (bd [(.int .i64 0), (.bool false), (.int .i64 0)] [(0, 1, (.int .i64 1))]) fun t11_9 =>
 M.bind (st 3 true t2_1 t11_9) fun _ =>
 M.bind (ld (some 3) true t2_1) fun t0_11 => guardM (!isTup t0_11) (M.pure t0_11))
 (M.bind (ld (some 3) true t1_0) fun t12_12 =>
 M.bind (st 3 true t2_1 t12_12) fun _ =>
 M.bind (ld (some 3) true t2_1) fun t0_14 => guardM (!isTup t0_14) (M.pure t0_14))) := by
 rw [C, u0p _ _ rfl]; kernel_rfl
theorem u3r (a0 : PV) : C u1p [a0] =
 trunc (M.bind (bx 3 a0) fun t1_0 =>
 M.bind (al [(.int .i64 0), (.bool false), (.int .i64 0)]) fun t2_1 =>
 M.bind (fa 0 t1_0) fun t3_2 =>
 M.bind (ld none false t3_2) fun t4_3 =>
 M.bind (bi .eql .none t4_3 (.int .i64 6)) fun t5_4 =>
 M.bind (gd (strip t5_4) false (fa 0 t1_0)) fun t7_5 =>
 M.bind (gd (strip t5_4) false (ld none false t7_5)) fun t8_6 =>
 M.bind (gd (strip t5_4) false (bi .eql .none t8_6 (.int .i64 7))) fun t9_7 =>
 M.bind (pick (strip t5_4) (.bool true) t9_7) fun t10_8 =>
 condM t10_8
 (M.bind (bd [(.int .i64 0), (.bool false), (.int .i64 0)] [(0, 1, (.int .i64 1))]) fun t11_9 =>
 M.bind (st 3 true t2_1 t11_9) fun _ =>
 M.bind (ld (some 3) true t2_1) fun t0_11 => guardM (!isTup t0_11) (M.pure t0_11))
 (M.bind (ld (some 3) true t1_0) fun t12_12 =>
 M.bind (st 3 true t2_1 t12_12) fun _ =>
 M.bind (ld (some 3) true t2_1) fun t0_14 => guardM (!isTup t0_14) (M.pure t0_14))) := by
 rw [C, u0p _ _ rfl]; kernel_rfl
theorem u8r (a0 : PV) : C u3h [a0] =
 trunc (M.bind (bx 3 a0) fun t1_0 =>
 M.bind (fa 0 t1_0) fun t3_1 =>
 M.bind (ld none false t3_1) fun t4_2 =>
 M.bind (bi .lss .none t4_2 (.int .i64 0)) fun t5_3 =>
 M.bind (gd (strip t5_3) false (fa 0 t1_0)) fun t7_4 =>
 M.bind (gd (strip t5_3) false (ld none false t7_4)) fun t8_5 =>
 M.bind (gd (strip t5_3) false (bi .gtr .none t8_5 (.int .i64 7))) fun t9_6 =>
 M.bind (pick (strip t5_3) (.bool true) t9_6) fun t10_7 =>
 condM t10_7
 (M.pure (.int .i64 0))
 (M.bind (bd [(.int .i64 0), (.int .i64 0), (.int .i64 0), (.int .i64 0), (.int .i64 0), (.int .i64 0), (.int .i64 0), (.int .i64 0)] [(0, 1, (.int .i64 0)), (1, 1, (.int .i64 4)), (2, 1, (.int .i64 8)), (3, 1, (.int .i64 4)), (4, 1, (.int .i64 8)), (5, 1, (.int .i64 0)), (6, 1, (.int .i64 1)), (7, 1, (.int .i64 2))]) fun t11_8 =>
 M.bind (fa 0 t1_0) fun t12_9 =>
 M.bind (ld none false t12_9) fun t13_10 =>
 M.bind (ixA 8 1 none t11_8 t13_10) fun t14_11 =>
 resT t14_11 (M.pure t14_11))) := by
 rw [C, u0p _ _ rfl]; kernel_rfl
noncomputable def u10 (v2 v4 v9 : PV) : M PV := atP P X u13 [1, 0, 1, 0, 1, 1, 1, 1, 1] (mkEnv 15 0 [(2, v2), (4, v4), (9, v9)])
noncomputable def u0w (v2 v12 : PV) : M PV := atP P X u13 [1, 0, 1, 0, 1, 1, 1, 1, 1, 1, 1] (mkEnv 15 0 [(2, v2), (12, v12)])
theorem u24 (v2 v4 v9 : PV) : u10 v2 v4 v9 =
 condM v9
 (M.pure (.int .i64 4))
 (M.bind (bi .eql .none v4 (.int .i64 2)) fun t13_0 =>
 condM t13_0
 (u0w v2 t13_0)
 (M.bind (bi .eql .none v4 (.int .i64 4)) fun t14_1 =>
 u0w v2 t14_1)) :=
 (u2g P X _ _ _).trans (by kernel_rfl)
theorem u1x (v2 v12 : PV) : u0w v2 v12 =
 condM v12
 (M.pure (.int .i64 8))
 (M.pure (.int .i64 0)) :=
 (u2g P X _ _ _).trans (by kernel_rfl)
theorem u3z (a0 : PV) : C u13 [a0] =
 trunc (M.bind (bx 3 a0) fun t1_0 =>
 M.bind (fa 0 t1_0) fun t3_1 =>
 M.bind (ld none false t3_1) fun t4_2 =>
 M.bind (bi .eql .none t4_2 (.int .i64 6)) fun t6_3 =>
 condM t6_3
 (M.pure (.int .i64 1))
 (M.bind (bi .eql .none t4_2 (.int .i64 7)) fun t8_4 =>
 condM t8_4
 (M.pure (.int .i64 2))
 (M.bind (bi .eql .none t4_2 (.int .i64 1)) fun t10_5 =>
 condM t10_5
 (u10 (.int .i64 0) t4_2 t10_5)
 (M.bind (bi .eql .none t4_2 (.int .i64 3)) fun t11_6 =>
 u10 (.int .i64 0) t4_2 t11_6)))) := by
 rw [C, u0p _ _ rfl]; kernel_rfl
theorem u6e (a0 a1 : PV) : C u22 [a0, a1] =
 trunc (M.bind (bx 2 a0) fun t2_0 =>
 M.bind (bx 2 a1) fun t3_1 =>
 M.bind (fa 1 t2_0) fun t5_2 =>
 M.bind (ld none false t5_2) fun t6_3 =>
 M.bind (fa 1 t3_1) fun t7_4 =>
 M.bind (ld none false t7_4) fun t8_5 =>
 M.bind (bi .eql .bool t6_3 t8_5) fun t9_6 =>
 M.bind (gd (strip t9_6) true (fa 0 t2_0)) fun t11_7 =>
 M.bind (gd (strip t9_6) true (ld none false t11_7)) fun t12_8 =>
 M.bind (gd (strip t9_6) true (fa 0 t3_1)) fun t13_9 =>
 M.bind (gd (strip t9_6) true (ld none false t13_9)) fun t14_10 =>
 M.bind (gd (strip t9_6) true (C u0z [(strip t12_8), (strip t14_10), (.fn u23 [] [])])) fun t15_11 =>
 M.bind (pick (strip t9_6) t15_11 (.bool false)) fun t16_12 =>
 resT t16_12 (M.pure t16_12)) := by
 rw [C, u0p _ _ rfl]; kernel_rfl
noncomputable def u0c (v2 v3 v4 v5 : PV) : M PV := atP P X u1b [1, 1, 0, 1, 0] (mkEnv 39 0 [(2, v2), (3, v3), (4, v4), (5, v5)])
theorem u1l (v2 v3 v4 v5 : PV) : u0c v2 v3 v4 v5 =
 M.bind (fa 0 v2) fun t21_0 =>
 M.bind (ld none false t21_0) fun t22_1 =>
 M.bind (lnL t22_1) fun t23_2 =>
 M.bind (bi .lss .none (strip v5) t23_2) fun t24_3 =>
 condM t24_3
 (M.bind (noPan (fa 0 v2)) fun t27_16 =>
 M.bind (noPan (M.pure (strip v5))) fun t29_17 =>
 M.bind (noPan (fa 0 v3)) fun t32_18 =>
 M.bind (noPan (M.pure (strip v5))) fun t34_19 =>
 M.bind (noPan (ld none false t27_16)) fun t28_20 =>
 M.bind (noPan (iaS 6 t28_20 t29_17)) fun t30_21 =>
 M.bind (noPan (ld (some 6) false t30_21)) fun t31_22 =>
 M.bind (noPan (ld none false t32_18)) fun t33_23 =>
 M.bind (noPan (iaS 6 t33_23 t34_19)) fun t35_24 =>
 M.bind (noPan (ld (some 6) false t35_24)) fun t36_25 =>
 M.bind (noPan (C u0x [(strip t31_22), (strip t36_25)])) fun t37_26 =>
 M.bind (noPan (un .not t37_26)) fun t38_27 =>
 condM t38_27
 (M.pure (.bool false))
 (M.bind (bi .add .none (strip v5) (.int .i64 1)) fun t26_28 =>
 u0c v2 v3 v4 t26_28))
 (M.pure (.bool true)) :=
 (u2g P X _ _ _).trans (by kernel_rfl)
theorem u3i (a0 a1 : PV) : C u1b [a0, a1] =
 trunc (M.bind (bx 2 a0) fun t2_0 =>
 M.bind (bx 2 a1) fun t3_1 =>
 M.bind (fa 1 t2_0) fun t6_2 =>
 M.bind (ld none false t6_2) fun t7_3 =>
 M.bind (fa 1 t3_1) fun t8_4 =>
 M.bind (ld none false t8_4) fun t9_5 =>
 M.bind (bi .neq .bool t7_3 t9_5) fun t10_6 =>
 M.bind (gd (strip t10_6) false (fa 0 t2_0)) fun t12_7 =>
 M.bind (gd (strip t10_6) false (ld none false t12_7)) fun t13_8 =>
 M.bind (gd (strip t10_6) false (lnL t13_8)) fun t14_9 =>
 M.bind (gd (strip t10_6) false (fa 0 t3_1)) fun t15_10 =>
 M.bind (gd (strip t10_6) false (ld none false t15_10)) fun t16_11 =>
 M.bind (gd (strip t10_6) false (lnL t16_11)) fun t17_12 =>
 M.bind (gd (strip t10_6) false (bi .neq .none t14_9 t17_12)) fun t18_13 =>
 M.bind (pick (strip t10_6) (.bool true) t18_13) fun t19_14 =>
 condM t19_14
 (M.pure (.bool false))
 (u0c t2_0 t3_1 (.bool false) (.int .i64 0))) := by
 rw [C, u0p _ _ rfl]; kernel_rfl
theorem u3s : C u1t [] =
 trunc (M.bind (bd [(.int .i64 0), (.bool false), (.int .i64 0)] [(0, 1, (.int .i64 1))]) fun t1_0 =>
 M.bind (C u3w [(strip t1_0)]) fun t2_1 =>
 M.bind (bi .eql .none t2_1 (.str ⟨#[105, 51, 50]⟩)) fun t3_2 =>
 resT t3_2 (M.pure t3_2)) := by
 rw [C, u0p _ _ rfl]; kernel_rfl
noncomputable def u0a (v2 v3 v4 v5 : PV) : M PV := atP P X u0x [1, 1, 0, 1, 0] (mkEnv 72 0 [(2, v2), (3, v3), (4, v4), (5, v5)])
theorem u1k (v2 v3 v4 v5 : PV) : u0a v2 v3 v4 v5 =
 M.bind (fa 1 v2) fun t30_0 =>
 M.bind (ld none false t30_0) fun t31_1 =>
 M.bind (lnL t31_1) fun t32_2 =>
 M.bind (bi .lss .none (strip v5) t32_2) fun t33_3 =>
 condM t33_3
 (nb (fa 1 v2) fun t36_4 =>
 nb (ld none false t36_4) fun t37_5 =>
 nb (iaS 1 t37_5 (strip v5)) fun t39_6 =>
 nb (ld none false t39_6) fun t40_7 =>
 nb (fa 1 v3) fun t41_8 =>
 nb (ld none false t41_8) fun t42_9 =>
 nb (iaS 1 t42_9 (strip v5)) fun t44_10 =>
 nb (ld none false t44_10) fun t45_11 =>
 nb (bi .neq .none t40_7 t45_11) fun t46_12 =>
 condM t46_12
 (M.pure (.bool false))
 (M.bind (bi .add .none (strip v5) (.int .i64 1)) fun t35_13 =>
 u0a v2 v3 v4 t35_13))
 (M.bind (fa 2 v2) fun t47_14 =>
 M.bind (fa 1 t47_14) fun t48_15 =>
 M.bind (ld none false t48_15) fun t49_16 =>
 M.bind (fa 2 v3) fun t50_17 =>
 M.bind (fa 1 t50_17) fun t51_18 =>
 M.bind (ld none false t51_18) fun t52_19 =>
 M.bind (C u0r [(strip t49_16), (strip t52_19)]) fun t53_20 =>
 M.bind (gd (strip t53_20) true (fa 2 v2)) fun t55_21 =>
 M.bind (gd (strip t53_20) true (fa 2 t55_21)) fun t56_22 =>
 M.bind (gd (strip t53_20) true (ld none false t56_22)) fun t57_23 =>
 M.bind (gd (strip t53_20) true (fa 2 v3)) fun t58_24 =>
 M.bind (gd (strip t53_20) true (fa 2 t58_24)) fun t59_25 =>
 M.bind (gd (strip t53_20) true (ld none false t59_25)) fun t60_26 =>
 M.bind (gd (strip t53_20) true (C u0r [(strip t57_23), (strip t60_26)])) fun t61_27 =>
 M.bind (pick (strip t53_20) t61_27 (.bool false)) fun t62_28 =>
 M.bind (gd (strip t62_28) true (fa 2 v2)) fun t64_29 =>
 M.bind (gd (strip t62_28) true (fa 3 t64_29)) fun t65_30 =>
 M.bind (gd (strip t62_28) true (ld none false t65_30)) fun t66_31 =>
 M.bind (gd (strip t62_28) true (fa 2 v3)) fun t67_32 =>
 M.bind (gd (strip t62_28) true (fa 3 t67_32)) fun t68_33 =>
 M.bind (gd (strip t62_28) true (ld none false t68_33)) fun t69_34 =>
 M.bind (gd (strip t62_28) true (C u0y [(strip t66_31), (strip t69_34)])) fun t70_35 =>
 M.bind (pick (strip t62_28) t70_35 (.bool false)) fun t71_36 =>
 resT t71_36 (M.pure t71_36)) :=
 (u2g P X _ _ _).trans (by kernel_rfl)
theorem u3m (a0 a1 : PV) : C u0x [a0, a1] =
 trunc (M.bind (bx 6 a0) fun t2_0 =>
 M.bind (bx 6 a1) fun t3_1 =>
 M.bind (fa 0 t2_0) fun t6_2 =>
 M.bind (ld none false t6_2) fun t7_3 =>
 M.bind (fa 0 t3_1) fun t8_4 =>
 M.bind (ld none false t8_4) fun t9_5 =>
 M.bind (bi .neq .bool t7_3 t9_5) fun t10_6 =>
 M.bind (gd (strip t10_6) false (fa 1 t2_0)) fun t12_7 =>
 M.bind (gd (strip t10_6) false (ld none false t12_7)) fun t13_8 =>
 M.bind (gd (strip t10_6) false (lnL t13_8)) fun t14_9 =>
 M.bind (gd (strip t10_6) false (fa 1 t3_1)) fun t15_10 =>
 M.bind (gd (strip t10_6) false (ld none false t15_10)) fun t16_11 =>
 M.bind (gd (strip t10_6) false (lnL t16_11)) fun t17_12 =>
 M.bind (gd (strip t10_6) false (bi .neq .none t14_9 t17_12)) fun t18_13 =>
 M.bind (pick (strip t10_6) (.bool true) t18_13) fun t19_14 =>
 M.bind (gd (strip t19_14) false (fa 2 t2_0)) fun t21_15 =>
 M.bind (gd (strip t19_14) false (fa 0 t21_15)) fun t22_16 =>
 M.bind (gd (strip t19_14) false (ld none false t22_16)) fun t23_17 =>
 M.bind (gd (strip t19_14) false (fa 2 t3_1)) fun t24_18 =>
 M.bind (gd (strip t19_14) false (fa 0 t24_18)) fun t25_19 =>
 M.bind (gd (strip t19_14) false (ld none false t25_19)) fun t26_20 =>
 M.bind (gd (strip t19_14) false (bi .neq .none t23_17 t26_20)) fun t27_21 =>
 M.bind (pick (strip t19_14) (.bool true) t27_21) fun t28_22 =>
 condM t28_22
 (M.pure (.bool false))
 (u0a t2_0 t3_1 (.bool false) (.int .i64 0))) := by
 rw [C, u0p _ _ rfl]; kernel_rfl
end Go.Proofs.YtiiepllnnjjmaaaDoor.Pi.Q
namespace Go.Proofs.YtiiepllnnjjmaaaDoor.Pi.Q
open Go Go.Proofs.YtiiepllnnjjmaaaDoor.Pi
noncomputable def u0e (v0 v1 v2 v6 v14 v15 : PV) : M PV := atP P X u0z [1, 1, 0, 1, 0] (mkEnv 30 0 [(0, v0), (1, v1), (2, v2), (6, v6), (14, v14), (15, v15)])
theorem u1d (v0 v1 v2 v6 v14 v15 : PV) : u0e v0 v1 v2 v6 v14 v15 =
 M.bind (bi .lss .none v15 v14) fun t16_0 =>
 condM t16_0
 (M.bind (noPan (M.pure (strip v2))) fun t18_12 =>
 M.bind (noPan (M.pure (strip v0))) fun t19_13 =>
 M.bind (noPan (M.pure (strip v15))) fun t20_14 =>
 M.bind (noPan (iaS 6 t19_13 t20_14)) fun t21_15 =>
 M.bind (noPan (M.pure (strip v1))) fun t23_16 =>
 M.bind (noPan (M.pure (strip v15))) fun t24_17 =>
 M.bind (noPan (iaS 6 t23_16 t24_17)) fun t25_18 =>
 M.bind (noPan (ld (some 6) false t21_15)) fun t22_19 =>
 M.bind (noPan (ld (some 6) false t25_18)) fun t26_20 =>
 M.bind (noPan (callV P C t18_12 [(strip t22_19), (strip t26_20)])) fun t27_21 =>
 M.bind (noPan (un .not t27_21)) fun t28_22 =>
 condM t28_22
 (M.pure (.bool false))
 (M.bind (bi .add .none (strip v15) (.int .i64 1)) fun t29_23 =>
 u0e v0 v1 v2 v6 v14 (strip t29_23)))
 (M.pure (.bool true)) :=
 (u2g P X _ _ _).trans (by kernel_rfl)
theorem u2t (a0 a1 a2 : PV) : C u0z [a0, a1, a2] =
 trunc (M.bind (lnL (strip a0)) fun t9_0 =>
 M.bind (lnL (strip a1)) fun t11_1 =>
 M.bind (bi .neq .none t9_0 t11_1) fun t12_2 =>
 condM t12_2
 (M.pure (.bool false))
 (M.bind (lnL (strip a0)) fun t14_3 =>
 u0e a0 a1 a2 (.bool false) t14_3 (.int .i64 0))) := by
 rw [C, u0p _ _ rfl]; kernel_rfl
theorem u6g (a0 a1 : PV) : C u23 [a0, a1] =
 trunc (M.bind (bx 6 a0) fun t2_0 =>
 M.bind (bx 6 a1) fun t3_1 =>
 chkA
 (nb (fa 2 t2_0) fun t9_2 =>
 nb (ld (some 4) true t9_2) fun t10_3 =>
 nb (fa 2 t3_1) fun t11_4 =>
 nb (ld (some 4) true t11_4) fun t12_5 =>
 guardM ((!clash (tld t11_4) (tld t9_2) || (isAlT (tld t11_4) && isAlT (tld t9_2))) && ((!clash (tld t11_4) (.no) || (isAlT (tld t11_4) && isAlT (.no))) && true)) <| M.bind (noPan (al [(.int .i64 0), (.slice false true 0 []), (.slice false true 0 []), (.slice false true 0 [])])) fun t8_6 =>
 guardM ((!clash (u05 t8_6) (tld t11_4) || (isAlT (u05 t8_6) && isAlT (tld t11_4))) && ((!clash (u05 t8_6) (.no) || (isAlT (u05 t8_6) && isAlT (.no))) && ((!clash (u05 t8_6) (tld t9_2) || (isAlT (u05 t8_6) && isAlT (tld t9_2))) && ((!clash (u05 t8_6) (.no) || (isAlT (u05 t8_6) && isAlT (.no))) && true)))) <| M.bind (noPan (al [(.int .i64 0), (.slice false true 0 []), (.slice false true 0 []), (.slice false true 0 [])])) fun t7_7 =>
 guardM ((!clash (u05 t7_7) (u05 t8_6) || (isAlT (u05 t7_7) && isAlT (u05 t8_6))) && ((!clash (u05 t7_7) (tld t11_4) || (isAlT (u05 t7_7) && isAlT (tld t11_4))) && ((!clash (u05 t7_7) (.no) || (isAlT (u05 t7_7) && isAlT (.no))) && ((!clash (u05 t7_7) (tld t9_2) || (isAlT (u05 t7_7) && isAlT (tld t9_2))) && ((!clash (u05 t7_7) (.no) || (isAlT (u05 t7_7) && isAlT (.no))) && true))))) <| M.bind (noPan (st 4 true t7_7 t10_3)) fun _ =>
 guardM ((!clash (tst t7_7) (tld t11_4) || (isAlT (tst t7_7) && isAlT (tld t11_4))) && ((!clash (tst t7_7) (.no) || (isAlT (tst t7_7) && isAlT (.no))) && true)) <| M.bind (noPan (st 4 true t8_6 t12_5)) fun _ =>
 M.pure [a0, a1, t2_0, t3_1, (PV.bool false), (PV.fn u18 [] []), (PV.fn u19 [] []), t7_7, t8_6, t9_2, (strip t10_3), t11_4, (strip t12_5), PV.undef, PV.undef, PV.undef, PV.undef, PV.undef, PV.undef, PV.undef, PV.undef, PV.undef, PV.undef, PV.undef, PV.undef, PV.undef, PV.undef, PV.undef, PV.undef, PV.undef, PV.undef, PV.undef, PV.undef, PV.undef, PV.undef, PV.undef, PV.undef, PV.undef, PV.undef, PV.undef, PV.undef, PV.undef, PV.undef, PV.undef, PV.undef, PV.undef, PV.undef, PV.undef, PV.undef, PV.undef, PV.undef, PV.undef, PV.undef, PV.undef, PV.undef])
 (nb (fa 2 t2_0) fun t9_10 =>
 nb (ld (some 4) true t9_10) fun t10_11 =>
 nb (fa 2 t3_1) fun t11_12 =>
 nb (ld (some 4) true t11_12) fun t12_13 =>
 guardM ((!clash (tld t11_12) (tld t9_10) || (isAlT (tld t11_12) && isAlT (tld t9_10))) && ((!clash (tld t11_12) (.no) || (isAlT (tld t11_12) && isAlT (.no))) && true)) <| M.bind (noPan (al [(.int .i64 0), (.slice false true 0 []), (.slice false true 0 []), (.slice false true 0 [])])) fun t7_14 =>
 guardM ((!clash (u05 t7_14) (tld t11_12) || (isAlT (u05 t7_14) && isAlT (tld t11_12))) && ((!clash (u05 t7_14) (.no) || (isAlT (u05 t7_14) && isAlT (.no))) && ((!clash (u05 t7_14) (tld t9_10) || (isAlT (u05 t7_14) && isAlT (tld t9_10))) && ((!clash (u05 t7_14) (.no) || (isAlT (u05 t7_14) && isAlT (.no))) && true)))) <| M.bind (noPan (al [(.int .i64 0), (.slice false true 0 []), (.slice false true 0 []), (.slice false true 0 [])])) fun t8_15 =>
 guardM ((!clash (u05 t8_15) (u05 t7_14) || (isAlT (u05 t8_15) && isAlT (u05 t7_14))) && ((!clash (u05 t8_15) (tld t11_12) || (isAlT (u05 t8_15) && isAlT (tld t11_12))) && ((!clash (u05 t8_15) (.no) || (isAlT (u05 t8_15) && isAlT (.no))) && ((!clash (u05 t8_15) (tld t9_10) || (isAlT (u05 t8_15) && isAlT (tld t9_10))) && ((!clash (u05 t8_15) (.no) || (isAlT (u05 t8_15) && isAlT (.no))) && true))))) <| M.bind (noPan (st 4 true t7_14 t10_11)) fun _ =>
 guardM ((!clash (tst t7_14) (tld t11_12) || (isAlT (tst t7_14) && isAlT (tld t11_12))) && ((!clash (tst t7_14) (.no) || (isAlT (tst t7_14) && isAlT (.no))) && true)) <| M.bind (noPan (st 4 true t8_15 t12_13)) fun _ =>
 M.pure [a0, a1, t2_0, t3_1, (PV.bool false), (PV.fn u18 [] []), (PV.fn u19 [] []), t7_14, t8_15, t9_10, (strip t10_11), t11_12, (strip t12_13), PV.undef, PV.undef, PV.undef, PV.undef, PV.undef, PV.undef, PV.undef, PV.undef, PV.undef, PV.undef, PV.undef, PV.undef, PV.undef, PV.undef, PV.undef, PV.undef, PV.undef, PV.undef, PV.undef, PV.undef, PV.undef, PV.undef, PV.undef, PV.undef, PV.undef, PV.undef, PV.undef, PV.undef, PV.undef, PV.undef, PV.undef, PV.undef, PV.undef, PV.undef, PV.undef, PV.undef, PV.undef, PV.undef, PV.undef, PV.undef, PV.undef, PV.undef]) <|
 nb (fa 2 t2_0) fun t9_18 =>
 nb (ld (some 4) true t9_18) fun t10_19 =>
 nb (fa 2 t3_1) fun t11_20 =>
 nb (ld (some 4) true t11_20) fun t12_21 =>
 guardM ((!clash (tld t11_20) (tld t9_18) || (isAlT (tld t11_20) && isAlT (tld t9_18))) && ((!clash (tld t11_20) (.no) || (isAlT (tld t11_20) && isAlT (.no))) && true)) <| M.bind (noPan (al [(.int .i64 0), (.slice false true 0 []), (.slice false true 0 []), (.slice false true 0 [])])) fun t7_22 =>
 guardM ((!clash (u05 t7_22) (tld t11_20) || (isAlT (u05 t7_22) && isAlT (tld t11_20))) && ((!clash (u05 t7_22) (.no) || (isAlT (u05 t7_22) && isAlT (.no))) && ((!clash (u05 t7_22) (tld t9_18) || (isAlT (u05 t7_22) && isAlT (tld t9_18))) && ((!clash (u05 t7_22) (.no) || (isAlT (u05 t7_22) && isAlT (.no))) && true)))) <| M.bind (noPan (al [(.int .i64 0), (.slice false true 0 []), (.slice false true 0 []), (.slice false true 0 [])])) fun t8_23 =>
 guardM ((!clash (u05 t8_23) (u05 t7_22) || (isAlT (u05 t8_23) && isAlT (u05 t7_22))) && ((!clash (u05 t8_23) (tld t11_20) || (isAlT (u05 t8_23) && isAlT (tld t11_20))) && ((!clash (u05 t8_23) (.no) || (isAlT (u05 t8_23) && isAlT (.no))) && ((!clash (u05 t8_23) (tld t9_18) || (isAlT (u05 t8_23) && isAlT (tld t9_18))) && ((!clash (u05 t8_23) (.no) || (isAlT (u05 t8_23) && isAlT (.no))) && true))))) <| M.bind (noPan (st 4 true t7_22 t10_19)) fun _ =>
 guardM ((!clash (tst t7_22) (tld t11_20) || (isAlT (tst t7_22) && isAlT (tld t11_20))) && ((!clash (tst t7_22) (.no) || (isAlT (tst t7_22) && isAlT (.no))) && true)) <| M.bind (noPan (st 4 true t8_23 t12_21)) fun _ =>
 M.bind (fa 0 t2_0) fun t13_26 =>
 M.bind (ld none false t13_26) fun t14_27 =>
 M.bind (fa 0 t3_1) fun t15_28 =>
 M.bind (ld none false t15_28) fun t16_29 =>
 M.bind (bi .eql .bool t14_27 t16_29) fun t17_30 =>
 M.bind (gd (strip t17_30) true (fa 1 t2_0)) fun t19_31 =>
 M.bind (gd (strip t17_30) true (ld none false t19_31)) fun t20_32 =>
 M.bind (gd (strip t17_30) true (fa 1 t3_1)) fun t21_33 =>
 M.bind (gd (strip t17_30) true (ld none false t21_33)) fun t22_34 =>
 M.bind (gd (strip t17_30) true (M.pure (.fn u19 [] []))) fun t23_35 =>
 M.bind (gd (strip t17_30) true (C u1r [(strip t20_32), (strip t22_34), (strip t23_35)])) fun t24_36 =>
 M.bind (pick (strip t17_30) t24_36 (.bool false)) fun t25_37 =>
 M.bind (gd (strip t25_37) true (fa 0 t7_22)) fun t27_38 =>
 M.bind (gd (strip t25_37) true (ld none false t27_38)) fun t28_39 =>
 M.bind (gd (strip t25_37) true (fa 0 t8_23)) fun t29_40 =>
 M.bind (gd (strip t25_37) true (ld none false t29_40)) fun t30_41 =>
 M.bind (gd (strip t25_37) true (bi .eql .none t28_39 t30_41)) fun t31_42 =>
 M.bind (pick (strip t25_37) t31_42 (.bool false)) fun t32_43 =>
 M.bind (gd (strip t32_43) true (fa 1 t7_22)) fun t34_44 =>
 M.bind (gd (strip t32_43) true (ld none false t34_44)) fun t35_45 =>
 M.bind (gd (strip t32_43) true (fa 1 t8_23)) fun t36_46 =>
 M.bind (gd (strip t32_43) true (ld none false t36_46)) fun t37_47 =>
 M.bind (gd (strip t32_43) true (C u0j [(strip t35_45), (strip t37_47), (.fn u1f [] [])])) fun t38_48 =>
 M.bind (pick (strip t32_43) t38_48 (.bool false)) fun t39_49 =>
 M.bind (gd (strip t39_49) true (fa 2 t7_22)) fun t41_50 =>
 M.bind (gd (strip t39_49) true (ld none false t41_50)) fun t42_51 =>
 M.bind (gd (strip t39_49) true (fa 2 t8_23)) fun t43_52 =>
 M.bind (gd (strip t39_49) true (ld none false t43_52)) fun t44_53 =>
 M.bind (gd (strip t39_49) true (C u0j [(strip t42_51), (strip t44_53), (.fn u1f [] [])])) fun t45_54 =>
 M.bind (pick (strip t39_49) t45_54 (.bool false)) fun t46_55 =>
 M.bind (gd (strip t46_55) true (fa 3 t7_22)) fun t48_56 =>
 M.bind (gd (strip t46_55) true (ld none false t48_56)) fun t49_57 =>
 M.bind (gd (strip t46_55) true (fa 3 t8_23)) fun t50_58 =>
 M.bind (gd (strip t46_55) true (ld none false t50_58)) fun t51_59 =>
 M.bind (gd (strip t46_55) true (M.pure (.fn u18 [] []))) fun t52_60 =>
 M.bind (gd (strip t46_55) true (C u14 [(strip t49_57), (strip t51_59), (strip t52_60)])) fun t53_61 =>
 M.bind (pick (strip t46_55) t53_61 (.bool false)) fun t54_62 =>
 resT t54_62 (M.pure t54_62)) := by
 rw [C, u0p _ _ rfl]; kernel_rfl
theorem ua9 (a0 : PV) : C u3w [a0] =
 trunc (M.bind (bx 3 a0) fun t1_0 =>
 M.bind (fa 0 t1_0) fun t4_1 =>
 M.bind (ld none false t4_1) fun t5_2 =>
 M.bind (bi .eql .none t5_2 (.int .i64 5)) fun t6_3 =>
 M.bind (gd (strip t6_3) true (fa 1 t1_0)) fun t8_4 =>
 M.bind (gd (strip t6_3) true (ld none false t8_4)) fun t9_5 =>
 M.bind (pick (strip t6_3) t9_5 (.bool false)) fun t10_6 =>
 condM t10_6
 (M.bind (fa 2 t1_0) fun t11_7 =>
 M.bind (ld none false t11_7) fun t12_8 =>
 M.bind (C u3q [(strip t12_8)]) fun t13_9 =>
 M.bind (bi .add .none (.str ⟨#[40, 114, 101, 102, 32, 110, 117, 108, 108, 32]⟩) t13_9) fun t14_10 =>
 M.bind (bi .add .none t14_10 (.str ⟨#[41]⟩)) fun t15_11 =>
 resT t15_11 (M.pure t15_11))
 (M.bind (fa 0 t1_0) fun t17_12 =>
 M.bind (ld none false t17_12) fun t18_13 =>
 M.bind (bi .eql .none t18_13 (.int .i64 5)) fun t19_14 =>
 condM t19_14
 (M.bind (fa 2 t1_0) fun t20_15 =>
 M.bind (ld none false t20_15) fun t21_16 =>
 M.bind (C u3q [(strip t21_16)]) fun t22_17 =>
 M.bind (bi .add .none (.str ⟨#[40, 114, 101, 102, 32]⟩) t22_17) fun t23_18 =>
 M.bind (bi .add .none t23_18 (.str ⟨#[41]⟩)) fun t24_19 =>
 resT t24_19 (M.pure t24_19))
 (M.bind (fa 0 t1_0) fun t26_20 =>
 M.bind (ld none false t26_20) fun t27_21 =>
 M.bind (bi .geq .none t27_21 (.int .i64 1)) fun t28_22 =>
 M.bind (gd (strip t28_22) true (fa 0 t1_0)) fun t30_23 =>
 M.bind (gd (strip t28_22) true (ld none false t30_23)) fun t31_24 =>
 M.bind (gd (strip t28_22) true (bi .leq .none t31_24 (.int .i64 7))) fun t32_25 =>
 M.bind (pick (strip t28_22) t32_25 (.bool false)) fun t33_26 =>
 condM t33_26
 (nb (C u2r []) fun t34_27 =>
 nb (fa 0 t1_0) fun t35_28 =>
 nb (ld none false t35_28) fun t36_29 =>
 nb (ixA 8 1 none t34_27 t36_29) fun t37_30 =>
 resT t37_30 (M.pure t37_30))
 (M.pure (.str ⟨#[63]⟩))))) := by
 rw [C, u0p _ _ rfl]; kernel_rfl
end Go.Proofs.YtiiepllnnjjmaaaDoor.Pi.Q
namespace Go.Proofs.YtiiepllnnjjmaaaDoor.Pi.Q
open Go Go.Proofs.YtiiepllnnjjmaaaDoor.Pi
noncomputable def u0l (v0 v1 v4 v5 : PV) : M PV := atP P X u0r [1, 1, 0, 1, 0] (mkEnv 27 0 [(0, v0), (1, v1), (4, v4), (5, v5)])
theorem u1j (v0 v1 v4 v5 : PV) : u0l v0 v1 v4 v5 =
 M.bind (lnL (strip v0)) fun t13_0 =>
 M.bind (bi .lss .none (strip v5) t13_0) fun t14_1 =>
 condM t14_1
 (M.bind (noPan (M.pure (strip v0))) fun t17_12 =>
 M.bind (noPan (M.pure (strip v5))) fun t18_13 =>
 M.bind (noPan (iaS 3 t17_12 t18_13)) fun t19_14 =>
 M.bind (noPan (M.pure (strip v1))) fun t21_15 =>
 M.bind (noPan (M.pure (strip v5))) fun t22_16 =>
 M.bind (noPan (iaS 3 t21_15 t22_16)) fun t23_17 =>
 M.bind (noPan (ld (some 3) false t19_14)) fun t20_18 =>
 M.bind (noPan (ld (some 3) false t23_17)) fun t24_19 =>
 M.bind (noPan (C u1a [(strip t20_18), (strip t24_19)])) fun t25_20 =>
 M.bind (noPan (un .not t25_20)) fun t26_21 =>
 condM t26_21
 (M.pure (.bool false))
 (M.bind (bi .add .none (strip v5) (.int .i64 1)) fun t16_22 =>
 u0l v0 v1 v4 t16_22))
 (M.pure (.bool true)) :=
 (u2g P X _ _ _).trans (by kernel_rfl)
theorem u3a (a0 a1 : PV) : C u0r [a0, a1] =
 trunc (M.bind (lnL (strip a0)) fun t7_0 =>
 M.bind (lnL (strip a1)) fun t9_1 =>
 M.bind (bi .neq .none t7_0 t9_1) fun t10_2 =>
 condM t10_2
 (M.pure (.bool false))
 (u0l a0 a1 (.bool false) (.int .i64 0))) := by
 rw [C, u0p _ _ rfl]; kernel_rfl
noncomputable def u0f (v0 v1 v4 v5 : PV) : M PV := atP P X u0y [1, 1, 0, 1, 0] (mkEnv 42 0 [(0, v0), (1, v1), (4, v4), (5, v5)])
theorem u1e (v0 v1 v4 v5 : PV) : u0f v0 v1 v4 v5 =
 M.bind (lnL (strip v0)) fun t13_0 =>
 M.bind (bi .lss .none (strip v5) t13_0) fun t14_1 =>
 condM t14_1
 (M.bind (noPan (M.pure (strip v0))) fun t17_27 =>
 M.bind (noPan (M.pure (strip v5))) fun t18_28 =>
 M.bind (noPan (iaS 4 t17_27 t18_28)) fun t19_29 =>
 M.bind (noPan (fa 3 t19_29)) fun t20_30 =>
 M.bind (noPan (M.pure (strip v1))) fun t22_31 =>
 M.bind (noPan (M.pure (strip v5))) fun t23_32 =>
 M.bind (noPan (iaS 4 t22_31 t23_32)) fun t24_33 =>
 M.bind (noPan (fa 3 t24_33)) fun t25_34 =>
 M.bind (noPan (ld none false t20_30)) fun t21_35 =>
 M.bind (noPan (ld none false t25_34)) fun t26_36 =>
 M.bind (noPan (bi .neq .bool t21_35 t26_36)) fun t27_37 =>
 M.bind (noPan (M.pure (strip t27_37))) fun t28_38 =>
 M.bind (noPan (gd t28_38 false (M.pure (strip v0)))) fun t29_39 =>
 M.bind (noPan (gd t28_38 false (M.pure (strip v5)))) fun t30_40 =>
 M.bind (noPan (gd t28_38 false (iaS 4 t29_39 t30_40))) fun t31_41 =>
 M.bind (noPan (gd t28_38 false (fa 0 t31_41))) fun t32_42 =>
 M.bind (noPan (gd t28_38 false (M.pure (strip v1)))) fun t34_43 =>
 M.bind (noPan (gd t28_38 false (M.pure (strip v5)))) fun t35_44 =>
 M.bind (noPan (gd t28_38 false (iaS 4 t34_43 t35_44))) fun t36_45 =>
 M.bind (noPan (gd t28_38 false (fa 0 t36_45))) fun t37_46 =>
 M.bind (noPan (gd t28_38 false (ld (some 3) false t32_42))) fun t33_47 =>
 M.bind (noPan (gd t28_38 false (ld (some 3) false t37_46))) fun t38_48 =>
 M.bind (noPan (gd t28_38 false (C u1a [(strip t33_47), (strip t38_48)]))) fun t39_49 =>
 M.bind (noPan (gd t28_38 false (un .not t39_49))) fun t40_50 =>
 M.bind (noPan (pick t28_38 (.bool true) t40_50)) fun t41_51 =>
 condM t41_51
 (M.pure (.bool false))
 (M.bind (bi .add .none (strip v5) (.int .i64 1)) fun t16_52 =>
 u0f v0 v1 v4 t16_52))
 (M.pure (.bool true)) :=
 (u2g P X _ _ _).trans (by kernel_rfl)
theorem u2u (a0 a1 : PV) : C u0y [a0, a1] =
 trunc (M.bind (lnL (strip a0)) fun t7_0 =>
 M.bind (lnL (strip a1)) fun t9_1 =>
 M.bind (bi .neq .none t7_0 t9_1) fun t10_2 =>
 condM t10_2
 (M.pure (.bool false))
 (u0f a0 a1 (.bool false) (.int .i64 0))) := by
 rw [C, u0p _ _ rfl]; kernel_rfl
end Go.Proofs.YtiiepllnnjjmaaaDoor.Pi.Q
namespace Go.Proofs.YtiiepllnnjjmaaaDoor.Pi.Q
open Go Go.Proofs.YtiiepllnnjjmaaaDoor.Pi
theorem u5f (a0 a1 : PV) : C u18 [a0, a1] =
 trunc (M.bind (bx 4 a0) fun t2_0 =>
 M.bind (bx 4 a1) fun t3_1 =>
 M.bind (fa 3 t2_0) fun t5_2 =>
 M.bind (ld none false t5_2) fun t6_3 =>
 M.bind (fa 3 t3_1) fun t7_4 =>
 M.bind (ld none false t7_4) fun t8_5 =>
 M.bind (bi .eql .bool t6_3 t8_5) fun t9_6 =>
 M.bind (gd (strip t9_6) true (fa 0 t2_0)) fun t11_7 =>
 M.bind (gd (strip t9_6) true (ld (some 3) false t11_7)) fun t12_8 =>
 M.bind (gd (strip t9_6) true (fa 0 t3_1)) fun t13_9 =>
 M.bind (gd (strip t9_6) true (ld (some 3) false t13_9)) fun t14_10 =>
 M.bind (gd (strip t9_6) true (C u1f [(strip t12_8), (strip t14_10)])) fun t15_11 =>
 M.bind (pick (strip t9_6) t15_11 (.bool false)) fun t16_12 =>
 resT t16_12 (M.pure t16_12)) := by
 rw [C, u0p _ _ rfl]; kernel_rfl
theorem u5d (a0 a1 : PV) : C u19 [a0, a1] =
 trunc (M.bind (bi .eql .none (strip a0) (strip a1)) fun t7_0 =>
 resT t7_0 (M.pure t7_0)) := by
 rw [C, u0p _ _ rfl]; kernel_rfl
noncomputable def u15 (v0 v1 v2 v6 v14 v15 : PV) : M PV := atP P X u1r [1, 1, 0, 1, 0] (mkEnv 30 0 [(0, v0), (1, v1), (2, v2), (6, v6), (14, v14), (15, v15)])
theorem u1s (v0 v1 v2 v6 v14 v15 : PV) : u15 v0 v1 v2 v6 v14 v15 =
 M.bind (bi .lss .none v15 v14) fun t16_0 =>
 condM t16_0
 (M.bind (noPan (M.pure (strip v2))) fun t18_12 =>
 M.bind (noPan (M.pure (strip v0))) fun t19_13 =>
 M.bind (noPan (M.pure (strip v15))) fun t20_14 =>
 M.bind (noPan (iaS 1 t19_13 t20_14)) fun t21_15 =>
 M.bind (noPan (M.pure (strip v1))) fun t23_16 =>
 M.bind (noPan (M.pure (strip v15))) fun t24_17 =>
 M.bind (noPan (iaS 1 t23_16 t24_17)) fun t25_18 =>
 M.bind (noPan (ld none false t21_15)) fun t22_19 =>
 M.bind (noPan (ld none false t25_18)) fun t26_20 =>
 M.bind (noPan (callV P C t18_12 [(strip t22_19), (strip t26_20)])) fun t27_21 =>
 M.bind (noPan (un .not t27_21)) fun t28_22 =>
 condM t28_22
 (M.pure (.bool false))
 (M.bind (bi .add .none (strip v15) (.int .i64 1)) fun t29_23 =>
 u15 v0 v1 v2 v6 v14 (strip t29_23)))
 (M.pure (.bool true)) :=
 (u2g P X _ _ _).trans (by kernel_rfl)
theorem u5k (a0 a1 a2 : PV) : C u1r [a0, a1, a2] =
 trunc (M.bind (lnL (strip a0)) fun t9_0 =>
 M.bind (lnL (strip a1)) fun t11_1 =>
 M.bind (bi .neq .none t9_0 t11_1) fun t12_2 =>
 condM t12_2
 (M.pure (.bool false))
 (M.bind (lnL (strip a0)) fun t14_3 =>
 u15 a0 a1 a2 (.bool false) t14_3 (.int .i64 0))) := by
 rw [C, u0p _ _ rfl]; kernel_rfl
noncomputable def u0h (v0 v1 v2 v6 v14 v15 : PV) : M PV := atP P X u0j [1, 1, 0, 1, 0] (mkEnv 30 0 [(0, v0), (1, v1), (2, v2), (6, v6), (14, v14), (15, v15)])
theorem u1c (v0 v1 v2 v6 v14 v15 : PV) : u0h v0 v1 v2 v6 v14 v15 =
 M.bind (bi .lss .none v15 v14) fun t16_0 =>
 condM t16_0
 (M.bind (noPan (M.pure (strip v2))) fun t18_12 =>
 M.bind (noPan (M.pure (strip v0))) fun t19_13 =>
 M.bind (noPan (M.pure (strip v15))) fun t20_14 =>
 M.bind (noPan (iaS 3 t19_13 t20_14)) fun t21_15 =>
 M.bind (noPan (M.pure (strip v1))) fun t23_16 =>
 M.bind (noPan (M.pure (strip v15))) fun t24_17 =>
 M.bind (noPan (iaS 3 t23_16 t24_17)) fun t25_18 =>
 M.bind (noPan (ld (some 3) false t21_15)) fun t22_19 =>
 M.bind (noPan (ld (some 3) false t25_18)) fun t26_20 =>
 M.bind (noPan (callV P C t18_12 [(strip t22_19), (strip t26_20)])) fun t27_21 =>
 M.bind (noPan (un .not t27_21)) fun t28_22 =>
 condM t28_22
 (M.pure (.bool false))
 (M.bind (bi .add .none (strip v15) (.int .i64 1)) fun t29_23 =>
 u0h v0 v1 v2 v6 v14 (strip t29_23)))
 (M.pure (.bool true)) :=
 (u2g P X _ _ _).trans (by kernel_rfl)
theorem u2w (a0 a1 a2 : PV) : C u0j [a0, a1, a2] =
 trunc (M.bind (lnL (strip a0)) fun t9_0 =>
 M.bind (lnL (strip a1)) fun t11_1 =>
 M.bind (bi .neq .none t9_0 t11_1) fun t12_2 =>
 condM t12_2
 (M.pure (.bool false))
 (M.bind (lnL (strip a0)) fun t14_3 =>
 u0h a0 a1 a2 (.bool false) t14_3 (.int .i64 0))) := by
 rw [C, u0p _ _ rfl]; kernel_rfl
noncomputable def u0k (v0 v1 v2 v6 v14 v15 : PV) : M PV := atP P X u14 [1, 1, 0, 1, 0] (mkEnv 30 0 [(0, v0), (1, v1), (2, v2), (6, v6), (14, v14), (15, v15)])
theorem u1i (v0 v1 v2 v6 v14 v15 : PV) : u0k v0 v1 v2 v6 v14 v15 =
 M.bind (bi .lss .none v15 v14) fun t16_0 =>
 condM t16_0
 (M.bind (noPan (M.pure (strip v2))) fun t18_12 =>
 M.bind (noPan (M.pure (strip v0))) fun t19_13 =>
 M.bind (noPan (M.pure (strip v15))) fun t20_14 =>
 M.bind (noPan (iaS 4 t19_13 t20_14)) fun t21_15 =>
 M.bind (noPan (M.pure (strip v1))) fun t23_16 =>
 M.bind (noPan (M.pure (strip v15))) fun t24_17 =>
 M.bind (noPan (iaS 4 t23_16 t24_17)) fun t25_18 =>
 M.bind (noPan (ld (some 4) false t21_15)) fun t22_19 =>
 M.bind (noPan (ld (some 4) false t25_18)) fun t26_20 =>
 M.bind (noPan (callV P C t18_12 [(strip t22_19), (strip t26_20)])) fun t27_21 =>
 M.bind (noPan (un .not t27_21)) fun t28_22 =>
 condM t28_22
 (M.pure (.bool false))
 (M.bind (bi .add .none (strip v15) (.int .i64 1)) fun t29_23 =>
 u0k v0 v1 v2 v6 v14 (strip t29_23)))
 (M.pure (.bool true)) :=
 (u2g P X _ _ _).trans (by kernel_rfl)
theorem u31 (a0 a1 a2 : PV) : C u14 [a0, a1, a2] =
 trunc (M.bind (lnL (strip a0)) fun t9_0 =>
 M.bind (lnL (strip a1)) fun t11_1 =>
 M.bind (bi .neq .none t9_0 t11_1) fun t12_2 =>
 condM t12_2
 (M.pure (.bool false))
 (M.bind (lnL (strip a0)) fun t14_3 =>
 u0k a0 a1 a2 (.bool false) t14_3 (.int .i64 0))) := by
 rw [C, u0p _ _ rfl]; kernel_rfl
theorem u6d : C u2r [] =
 trunc (M.bind (al [(.str ⟨#[]⟩), (.str ⟨#[]⟩), (.str ⟨#[]⟩), (.str ⟨#[]⟩), (.str ⟨#[]⟩), (.str ⟨#[]⟩), (.str ⟨#[]⟩), (.str ⟨#[]⟩)]) fun t0_0 =>
 M.bind (bd [(.str ⟨#[]⟩), (.str ⟨#[]⟩), (.str ⟨#[]⟩), (.str ⟨#[]⟩), (.str ⟨#[]⟩), (.str ⟨#[]⟩), (.str ⟨#[]⟩), (.str ⟨#[]⟩)] [(0, 1, (.str ⟨#[]⟩)), (1, 1, (.str ⟨#[105, 51, 50]⟩)), (2, 1, (.str ⟨#[105, 54, 52]⟩)), (3, 1, (.str ⟨#[102, 51, 50]⟩)), (4, 1, (.str ⟨#[102, 54, 52]⟩)), (5, 1, (.str ⟨#[]⟩)), (6, 1, (.str ⟨#[105, 56]⟩)), (7, 1, (.str ⟨#[105, 49, 54]⟩))]) fun t1_1 =>
 M.bind (st 8 true t0_0 t1_1) fun _ =>
 M.bind (ld (some 8) true t0_0) fun t0_3 => guardM (!isTup t0_3) (M.pure t0_3)) := by
 rw [C, u0p _ _ rfl]; kernel_rfl
end Go.Proofs.YtiiepllnnjjmaaaDoor.Pi.Q
namespace Go.Proofs.YtiiepllnnjjmaaaDoor.Pi.Q
open Go Go.Proofs.YtiiepllnnjjmaaaDoor.Pi
attribute [local congr] ite_congr
structure VT where
  num : Int
  nul : Bool
  heap : Int
  deriving DecidableEq
def encV (v : VT) : PV := .agg [.int .i64 v.num, .bool v.nul, .int .i64 v.heap]
theorem ns (p : Nat) : ((p + 1 : Nat) : Int) = (p : Int) + 1 := rfl
end Go.Proofs.YtiiepllnnjjmaaaDoor.Pi.Q
namespace Go.Proofs.YtiiepllnnjjmaaaDoor.Pi.Q
open Go Go.Proofs.YtiiepllnnjjmaaaDoor.Pi
attribute [local congr] ite_congr
structure BK where
  ty : Int
  res : VT
  deriving DecidableEq
end Go.Proofs.YtiiepllnnjjmaaaDoor.Pi.Q
namespace Go.Proofs.YtiiepllnnjjmaaaDoor.Pi.Q
open Go Go.Proofs.YtiiepllnnjjmaaaDoor.Pi
attribute [local congr] ite_congr
structure FT where
  ty : VT
  mu : Bool
  deriving DecidableEq
def encF (v : FT) : PV := .agg [.int .i64 v.ty.num, .bool v.ty.nul, .int .i64 v.ty.heap, .bool v.mu]
end Go.Proofs.YtiiepllnnjjmaaaDoor.Pi.Q
namespace Go.Proofs.YtiiepllnnjjmaaaDoor.Pi.Q
open Go Go.Proofs.YtiiepllnnjjmaaaDoor.Pi
attribute [local congr] ite_congr
abbrev encI (v : Int) : PV := .int .i64 v
structure CT where
  kind : Int
  ps : List VT
  rs : List VT
  fs : List FT
  deriving DecidableEq
structure ST where
  fin : Bool
  sup : List Int
  comp : CT
  deriving DecidableEq
end Go.Proofs.YtiiepllnnjjmaaaDoor.Pi.Q
namespace Go.Proofs.YtiiepllnnjjmaaaDoor.Pi.Q
open Go Go.Proofs.YtiiepllnnjjmaaaDoor.Pi
attribute [local congr] ite_congr
structure RT where
  types : List ST
  exp : Bool
  deriving DecidableEq
end Go.Proofs.YtiiepllnnjjmaaaDoor.Pi.Q
namespace Go.Proofs.YtiiepllnnjjmaaaDoor.Pi.Q
open Go Go.Proofs.YtiiepllnnjjmaaaDoor.Pi
attribute [local congr] ite_congr
def CT.fit (v : CT) : Prop := v.ps.length < 2 ^ 62 ∧ v.rs.length < 2 ^ 62 ∧ v.fs.length < 2 ^ 62
def ST.fit (v : ST) : Prop := v.sup.length < 2 ^ 62 ∧ v.comp.fit
def RT.fit (v : RT) : Prop := v.types.length < 2 ^ 62 ∧ ∀ t ∈ v.types, t.fit
end Go.Proofs.YtiiepllnnjjmaaaDoor.Pi.Q
namespace Go.Proofs.YtiiepllnnjjmaaaDoor.Pi
open Go.ChangeShapes Go.WideShapes
def litPV : Lit → PV
  | .int k n => .int k n
  | .bool b => .bool b
  | .string s => .str ⟨s.toArray⟩
  | _ => .undef
def wrapE (P : Program) (e : TypeId) (cs : List PV) : PV :=
  match tagg P e with
  | some _ => .agg cs
  | none => cs.headD .undef
mutual
def toldD {H : Type} (P : Program) : TypeId → DataW H → List PV
  | t, .lit l => [litPV l]
  | t, .nil => match P.underlying t with
    | some (.slice e) => [.slice false true 0 []]
    | _ => [.nil]
  | t, .slice elems _ => match P.underlying t with
    | some (.slice e) => [.slice false false (P.cellsOf e) (toldE P e elems)]
    | _ => []
  | t, .agg parts => match P.underlying t with
    | some (.struct fs) => toldF P fs.toList parts
    | _ => []
  | _, _ => []
def toldE {H : Type} (P : Program) (e : TypeId) : List (DataW H) → List PV
  | [] => []
  | d :: r => wrapE P e (toldD P e d) :: toldE P e r
def toldF {H : Type} (P : Program) : List Field → List (DataW H) → List PV
  | f :: fs, d :: r => toldD P f.type d ++ toldF P fs r
  | _, _ => []
end
def laidF (P : Program) : Nat → List Field → Option Nat
  | o, [] => some o
  | o, f :: r => bif f.offset == o then laidF P (o + P.cellsOf f.type) r else none
def plainT (P : Program) (T : List TypeId) (t : TypeId) : Bool :=
  match P.underlying t with
  | some .bool | some (.int _) | some .string => P.cellsOf t == 1 && (tagg P t).isNone
  | some (.slice e) => T.contains e && (decide (0 < P.cellsOf e) && (P.cellsOf t == 1 && (tagg P t).isNone))
  | some (.struct fs) => fs.toList.all (fun f => T.contains f.type) && (laidF P 0 fs.toList == some (P.cellsOf t) && (tagg P t).isSome)
  | _ => false
theorem ugb {P : Program} {T : List TypeId} {e : TypeId} (he : plainT P T e = true) {cs : List PV} (hl : cs.length = P.cellsOf e) (hc : ∀ (j : Nat) (c : PV), cs[j]? = some c → isCell c = true) : (wrapE P e cs).cells = cs := by
  have one : P.cellsOf e = 1 → (tagg P e).isNone = true → (wrapE P e cs).cells = cs := fun h1 h2 => by
    obtain ⟨c, rfl⟩ : ∃ c, cs = [c] := by
      cases cs with
      | nil => simp at hl; omega
      | cons c r =>
        cases r with
        | nil => exact ⟨c, rfl⟩
        | cons d r => simp at hl; omega
    have hcell := hc 0 c rfl
    unfold wrapE
    cases ht : tagg P e with
    | some _ => rw [ht] at h2; cases h2
    | none =>
      simp only [List.headD_cons]
      cases c <;> first | rfl | cases hcell
  unfold plainT at he
  split at he
  · simp only [Bool.and_eq_true, beq_iff_eq] at he; exact one he.1 he.2
  · simp only [Bool.and_eq_true, beq_iff_eq] at he; exact one he.1 he.2
  · simp only [Bool.and_eq_true, beq_iff_eq] at he; exact one he.1 he.2
  · simp only [Bool.and_eq_true, beq_iff_eq] at he; exact one he.2.2.1 he.2.2.2
  · simp only [Bool.and_eq_true, beq_iff_eq] at he
    unfold wrapE
    cases ht : tagg P e with
    | some _ => rfl
    | none => rw [ht] at he; cases he.2.2
  · cases he
def ToldOk (W : World) (cs : List Value) (ps : List PV) : Prop :=
  ps.length = cs.length ∧ ∀ (j : Nat) (c : PV), ps[j]? = some c → isCell c = true ∧ ∀ v, cs[j]? = some v → RepF (imOf W) c v
theorem ToldOk.one {W : World} {c : PV} {v : Value} (h1 : isCell c = true) (h2 : RepF (imOf W) c v) : ToldOk W [v] [c] :=
  ⟨rfl, fun j d hd => by
    cases j with
    | zero => simp at hd; subst hd; exact ⟨h1, fun u hu => by simp at hu; subst hu; exact h2⟩
    | succ j => simp at hd⟩
variable {H : Type} {enc : TypeId × Value → H} {P : Program} {W : World} {base : Nat} {spare : Nat → Bool} {held : Bool} {T : List TypeId}
theorem u9o {W : World} {a : Addr} {n : Nat} {l : List Value} (hn : 0 < n) (h : W.cells? base a n = some l) : a.spot = none := by
  unfold World.cells? at h
  split at h
  · have h0 := mapM_some_get h 0 0 (by simp [hn])
    have : a.add 0 = a := by simp [Addr.add]
    rw [this] at h0
    unfold World.cell? at h0
    cases hs : a.spot with
    | none => rfl
    | some x =>
      rw [hs] at h0
      have hl := mapM_some_length h
      have hlt : 0 < l.length := by rw [hl]; simpa using hn
      rw [List.getElem?_eq_getElem hlt] at h0
      split at h0 <;> simp at h0
  · cases h
theorem ujg {W : World} {a : Addr} {n : Nat} {l : List Value} (h : W.cells? base a n = some l) (hs : a.spot = none) : l.length = n ∧ ∀ (j : Nat) (v : Value), l[j]? = some v → W.cell? ⟨a.block, a.off + j, none⟩ = some v := by
  unfold World.cells? at h
  split at h
  · refine ⟨by simpa using mapM_some_length h, fun j v hv => ?_⟩
    have hj : j < n := by
      have := (List.getElem?_eq_some_iff.mp hv).1
      have h2 := mapM_some_length h
      simp at h2
      omega
    have h0 := mapM_some_get h j j (by simp [hj])
    rw [hv] at h0
    have : a.add j = ⟨a.block, a.off + j, none⟩ := by
      obtain ⟨b, o, sp⟩ := a
      simp only at hs
      subst hs
      unfold Addr.add
      split <;> simp_all
    rw [this] at h0
    exact h0
  · cases h
theorem uc3 {P : Program} {e : TypeId} : ∀ (l : List (DataW H)) (i : Nat), (toldE P e l)[i]? = l[i]?.map fun d => wrapE P e (toldD P e d)
  | [], i => by simp [toldE]
  | d :: r, 0 => by simp [toldE]
  | d :: r, i + 1 => by simpa [toldE] using uc3 r i
theorem u68 {P : Program} {e : TypeId} : ∀ (l : List (DataW H)), (toldE P e l).length = l.length
  | [] => rfl
  | d :: r => by simp [toldE, u68 r]
theorem ToldOk.append {W : World} {cs ds : List Value} {ps qs : List PV} (h : ToldOk W cs ps) (k : ToldOk W ds qs) : ToldOk W (cs ++ ds) (ps ++ qs) := by
  refine ⟨by simp [h.1, k.1], fun j c hc => ?_⟩
  by_cases hj : j < ps.length
  · rw [List.getElem?_append_left hj] at hc
    obtain ⟨h1, h2⟩ := h.2 j c hc
    refine ⟨h1, fun v hv => h2 v ?_⟩
    rwa [List.getElem?_append_left (by rw [← h.1]; exact hj)] at hv
  · rw [List.getElem?_append_right (by omega)] at hc
    obtain ⟨h1, h2⟩ := k.2 _ c hc
    refine ⟨h1, fun v hv => h2 v ?_⟩
    rwa [List.getElem?_append_right (by rw [← h.1]; omega), ← h.1] at hv
theorem u7a (n : Nat) (ok : ∀ (t : TypeId) (cs : List Value) (x : DataW H × List MemPlace), T.contains t = true → DataW.trod enc P W base spare held n t cs = some x → cs.length = P.cellsOf t ∧ ToldOk W cs (toldD P t x.1)) (cs : List Value) :
    ∀ (fs : List Field) (o : Nat) (xs : List (DataW H × List MemPlace)), (∀ f ∈ fs, T.contains f.type = true) → laidF P o fs = some cs.length → xs.length = fs.length →
      (∀ (i : Nat) (f : Field), fs[i]? = some f → DataW.trod enc P W base spare held n f.type ((cs.drop f.offset).take (P.cellsOf f.type)) = xs[i]?) → o ≤ cs.length ∧ ToldOk W (cs.drop o) (toldF P fs (xs.map (·.1)))
  | [], o, xs, hT, hl, hx, h => by
    simp only [laidF, Option.some.injEq] at hl
    subst hl
    obtain rfl : xs = [] := List.eq_nil_of_length_eq_zero (by simpa using hx)
    exact ⟨Nat.le_refl _, by simp [toldF], by simp [toldF]⟩
  | f :: fs, o, xs, hT, hl, hx, h => by
    unfold laidF at hl
    cases ho : (f.offset == o) with
    | false => rw [ho] at hl; cases hl
    | true =>
      rw [ho] at hl
      simp only [cond_true] at hl
      obtain rfl : f.offset = o := by simpa using ho
      cases xs with
      | nil => simp at hx
      | cons y ys =>
        have h0 := h 0 f rfl
        simp only [List.getElem?_cons_zero] at h0
        obtain ⟨l1, l2⟩ := ok f.type _ y (hT f (by simp)) h0
        obtain ⟨k1, k2⟩ := u7a n ok cs fs _ ys (fun g hg => hT g (by simp [hg])) hl (by simpa using hx) (fun i g hg => by
          have := h (i + 1) g (by simpa using hg)
          simpa using this)
        refine ⟨by omega, ?_⟩
        have e1 : cs.drop f.offset = (cs.drop f.offset).take (P.cellsOf f.type) ++ cs.drop (f.offset + P.cellsOf f.type) := by
          rw [← List.drop_drop, List.take_append_drop]
        rw [e1]
        simp only [List.map_cons, toldF]
        exact l2.append k2
theorem told_ok (hT : T.all (plainT P T) = true) (hsp : ∀ b, spare b = true) : ∀ (n : Nat) (t : TypeId) (cs : List Value) (x : DataW H × List MemPlace), T.contains t = true → DataW.trod enc P W base spare held n t cs = some x → cs.length = P.cellsOf t ∧ ToldOk W cs (toldD P t x.1) := by
  intro n
  induction n with
  | zero => intro t cs x _ h; simp [DataW.trod] at h
  | succ n ih =>
  intro t cs x ht h
  have hp : plainT P T t = true := List.all_eq_true.mp hT t (by simpa using ht)
  have hp0 := hp
  unfold plainT at hp
  split at hp
  · rename_i hu
    simp only [Bool.and_eq_true, beq_iff_eq] at hp
    obtain ⟨b, rfl, rfl⟩ := DataW.trod_bool hu h
    refine ⟨by simp [hp.1], ?_⟩
    simp only [toldD, litPV]
    exact .one rfl (.bool b)
  · rename_i k hu
    simp only [Bool.and_eq_true, beq_iff_eq] at hp
    obtain ⟨m, rfl, rfl, _⟩ := DataW.trod_int hu h
    refine ⟨by simp [hp.1], ?_⟩
    simp only [toldD, litPV]
    exact .one rfl (.int k m)
  · rename_i hu
    simp only [Bool.and_eq_true, beq_iff_eq] at hp
    obtain ⟨s, rfl, rfl, _⟩ := DataW.trod_string hu h
    refine ⟨by simp [hp.1], ?_⟩
    simp only [toldD, litPV]
    have e : (⟨s.data.toList.toArray⟩ : ByteArray) = s := by rw [Array.toArray_toList]
    rw [e]
    exact .one rfl (.str s)
  · rename_i e hu
    simp only [Bool.and_eq_true, beq_iff_eq, decide_eq_true_eq] at hp
    obtain ⟨he, hz, h1, _⟩ := hp
    have hpe : plainT P T e = true := List.all_eq_true.mp hT e (by simpa using he)
    rcases DataW.trod_slice hu h with ⟨rfl, rfl⟩ | ⟨a, len, cap, elems, rest, m, hm, rfl, rfl, hb, hlc, hcm, hlen, hel, hre, hno⟩
    · refine ⟨by simp [h1], ?_⟩
      simp only [toldD, hu]
      exact .one rfl (.snil 0)
    · obtain rfl : m = n := by omega
      refine ⟨by simp [h1], ?_⟩
      simp only [toldD, hu]
      have each : ∀ (i : Nat) (y : DataW H × List MemPlace), elems[i]? = some y → ∃ l : List Value, W.cells? base (a.add (i * P.cellsOf e)) (P.cellsOf e) = some l ∧ l.length = P.cellsOf e ∧ ToldOk W l (toldD P e y.1) := by
        intro i y hy
        have hi : i < len := by
          have := (List.getElem?_eq_some_iff.mp hy).1
          omega
        have := hel i hi
        rw [hy, Option.bind_eq_some_iff] at this
        obtain ⟨l, hl, hd⟩ := this
        obtain ⟨q1, q2⟩ := ih e l y he hd
        exact ⟨l, hl, q1, q2⟩
      have spot : a.spot = none ∨ cap = 0 := by
        by_cases hc : cap = 0
        · exact .inr hc
        · left
          have add0 : a.add (0 * P.cellsOf e) = a := by simp [Addr.add]
          by_cases hl0 : len = 0
          · obtain ⟨r1, r2⟩ := hre (hsp _)
            have := r2 0 (by omega)
            have hlt : 0 < rest.length := by omega
            rw [List.getElem?_eq_getElem hlt, Option.bind_eq_some_iff] at this
            obtain ⟨l, hl, _⟩ := this
            rw [hl0] at hl
            rw [show (0 + 0) * P.cellsOf e = 0 * P.cellsOf e by simp, add0] at hl
            exact u9o hz hl
          · have hlt : 0 < elems.length := by omega
            obtain ⟨l, hl, _⟩ := each 0 _ (List.getElem?_eq_getElem hlt)
            rw [add0] at hl
            exact u9o hz hl
      obtain ⟨g, o, sp⟩ := a
      have hcap : cap = 0 → elems = [] := fun h => List.eq_nil_of_length_eq_zero (by omega)
      have hL : (toldE P e (elems.map (·.1))).length = len := by rw [u68, List.length_map, hlen]
      have hget : ∀ (i : Nat) (x : PV), (toldE P e (elems.map (·.1)))[i]? = some x → sp = none ∧ ∃ l : List Value, (∀ (j : Nat) (v : Value), l[j]? = some v → imOf W g (o + i * P.cellsOf e + j) = some v) ∧ l.length = P.cellsOf e ∧ x.cells.length = P.cellsOf e ∧ ∀ (j : Nat) (c : PV), x.cells[j]? = some c → ∀ v, l[j]? = some v → RepF (imOf W) c v := by
        intro i x hx
        rw [uc3, List.getElem?_map] at hx
        cases hy : elems[i]? with
        | none => rw [hy] at hx; simp at hx
        | some y =>
          rw [hy] at hx
          simp only [Option.map_some, Option.some.injEq] at hx
          have hsn : sp = none := by
            rcases spot with h | h
            · exact h
            · rw [hcap h] at hy; simp at hy
          subst hsn
          obtain ⟨l, hl, q1, q2⟩ := each i y hy
          have hadd : (⟨g, o, none⟩ : Addr).add (i * P.cellsOf e) = ⟨g, o + i * P.cellsOf e, none⟩ := by unfold Addr.add; split <;> simp_all
          rw [hadd] at hl
          obtain ⟨_, q3⟩ := ujg hl rfl
          have hw := ugb hpe (cs := toldD P e y.1) (by rw [q2.1, q1]) (fun j c hc => (q2.2 j c hc).1)
          rw [hx] at hw
          refine ⟨rfl, l, fun j v hv => q3 j v hv, q1, by rw [hw, q2.1, q1], fun j c hc v hv => ?_⟩
          rw [hw] at hc
          exact (q2.2 j c hc).2 v hv
      have hrep := RepF.slice (im := imOf W) (g := g) (o := o) (cap := cap) (sz := P.cellsOf e) (sp := sp) (xs := toldE P e (elems.map (·.1))) (fun i j => (imOf W g (o + i * P.cellsOf e + j)).getD .nilIface) spot (by omega)
        (fun i x hx => (hget i x hx).2.choose_spec.2.2.1)
        (fun i x j c hx hc => by
          obtain ⟨_, l, l1, l2, l3, l4⟩ := hget i x hx
          have hj : j < l.length := by
            have := (List.getElem?_eq_some_iff.mp hc).1
            omega
          rw [l1 j _ (List.getElem?_eq_getElem hj)]
          rfl)
        (fun i x j c hx hc => by
          obtain ⟨_, l, l1, l2, l3, l4⟩ := hget i x hx
          have hj : j < l.length := by
            have := (List.getElem?_eq_some_iff.mp hc).1
            omega
          rw [l1 j _ (List.getElem?_eq_getElem hj)]
          exact l4 j c hc _ (List.getElem?_eq_getElem hj))
      rw [hL] at hrep
      exact .one rfl hrep
  · rename_i fs hu
    simp only [Bool.and_eq_true, beq_iff_eq, List.all_eq_true] at hp
    obtain ⟨hTf, hlaid, _⟩ := hp
    obtain ⟨xs, m, hm, rfl, hcl, hxl, hx⟩ := DataW.trod_struct hu h
    obtain rfl : m = n := by omega
    refine ⟨hcl, ?_⟩
    simp only [toldD, hu]
    have := u7a (T := T) m (fun t cs x ht hk => ih t cs x ht hk) cs fs.toList 0 xs (fun f hf => hTf f hf) (by rw [hcl]; exact hlaid) (by simpa using hxl) (fun i f hf => hx i f (by simpa using hf))
    simpa using this.2
  · cases hp
end Go.Proofs.YtiiepllnnjjmaaaDoor.Pi
namespace Go.Proofs.YtiiepllnnjjmaaaDoor.Pi
def LZ (z : Bool) (sz : Nat) (l : List PV) : PV := match l with | [] => .slice false z (if z then 0 else sz) [] | l => .slice false false sz l
structure GL (α : Type) where
  z : Bool
  l : List α
  deriving DecidableEq
section
variable {z : Bool} {sz : Nat} {l : List PV} {H : Heap}
theorem u0n : isTup (LZ z sz l) = false := by cases l <;> rfl
theorem u09 : isCell (LZ z sz l) = true := by cases l <;> rfl
theorem u0m : (LZ z sz l).cells = [LZ z sz l] := by cases l <;> rfl
theorem low_Z {n : Nat} : (LZ z sz l).low n = true := by cases l <;> simp [LZ, u8a]
theorem u06 : strip (LZ z sz l) = LZ z sz l := by cases l <;> rfl
theorem u08 : stripC (LZ z sz l) = LZ z sz l := by cases l <;> rfl
theorem ln_Z : run (lnL (LZ z sz l)) H = some (.ok (.int .i64 l.length) H) := by cases l <;> rfl
theorem ia_Z {i : Nat} {x : PV} (h : l[i]? = some x) : run (iaS sz (LZ z sz l) (.int .i64 i)) H = some (.ok (.elem x.cells) H) := by
  cases l with
  | nil => simp at h
  | cons a r =>
    show run (iaS sz (.slice false false sz (a :: r)) (.int .i64 i)) H = _
    rw [udf (by omega), Int.toNat_natCast, h]
    rfl
end
end Go.Proofs.YtiiepllnnjjmaaaDoor.Pi
namespace Go.Proofs.YtiiepllnnjjmaaaDoor.Pi
open Go.ChangeShapes Go.WideShapes
mutual
def bulk {H : Type} : DataW H → Nat
  | .lit (.string bytes) => bytes.length + 1
  | .lit _ => 1
  | .nil => 1
  | .ptr d => bulk d + 1
  | .slice elems spare => bulkL elems + bulkL spare + 1
  | .agg parts => bulkL parts + 1
  | _ => 1
def bulkL {H : Type} : List (DataW H) → Nat
  | [] => 0
  | d :: r => bulk d + bulkL r
end
section
variable {H : Type} {enc : TypeId × Value → H} {P : Program} {W : World} {base : Nat} {spare : Nat → Bool} {held : Bool} {A B : Type} {n : Nat} {t e : TypeId}
structure DecArgs (H : Type) where
  enc : TypeId × Value → H
  P : Program
  W : World
  base : Nat
  spare : Nat → Bool
  held : Bool
variable (G : DecArgs H)
def Dec (n : Nat) (t : TypeId) (cells : A → List PV) (ok : A → Prop) (ms : A → Nat) : Prop :=
  ∀ cs x, DataW.trod G.enc G.P G.W G.base G.spare G.held n t cs = some x → ∃ a, toldD G.P t x.1 = cells a ∧ ok a ∧ ms a ≤ bulk x.1
def DecF (n : Nat) (fs : List Field) (cells : A → List PV) (ok : A → Prop) (ms : A → Nat) : Prop :=
  ∀ (xs : List (DataW H × List MemPlace)), xs.length = fs.length → (∀ (i : Nat) (f : Field), fs[i]? = some f → ∃ cs, DataW.trod G.enc G.P G.W G.base G.spare G.held n f.type cs = xs[i]?) →
    ∃ a, toldF G.P fs (xs.map (·.1)) = cells a ∧ ok a ∧ ms a ≤ bulkL (xs.map (·.1))
variable {G}
theorem dec_int {k : IntKind} (hu : G.P.underlying t = some (.int k)) : Dec G n t (fun m : Int => [.int k m]) (fun m => (Lit.int k m).wf = true) (fun _ => 1) := by
  intro cs x h
  obtain ⟨m, rfl, rfl, hw⟩ := DataW.trod_int hu h
  exact ⟨m, by simp [toldD, litPV], hw, by simp [bulk]⟩
theorem dec_bool (hu : G.P.underlying t = some .bool) : Dec G n t (fun b : Bool => [.bool b]) (fun _ => True) (fun _ => 1) := by
  intro cs x h
  obtain ⟨b, rfl, rfl⟩ := DataW.trod_bool hu h
  exact ⟨b, by simp [toldD, litPV], trivial, by simp [bulk]⟩
theorem decF_nil : DecF G n [] (fun _ : Unit => []) (fun _ => True) (fun _ => 0) := by
  intro xs hl _
  exact ⟨(), by simp [toldF], trivial, Nat.zero_le _⟩
theorem decF_cons {f : Field} {fs : List Field} {cA : A → List PV} {okA : A → Prop} {mA : A → Nat} {cB : B → List PV} {okB : B → Prop} {mB : B → Nat} (ha : Dec G n f.type cA okA mA) (hb : DecF G n fs cB okB mB) :
    DecF G n (f :: fs) (fun p : A × B => cA p.1 ++ cB p.2) (fun p => okA p.1 ∧ okB p.2) (fun p => mA p.1 + mB p.2) := by
  intro xs hl h
  cases xs with
  | nil => simp at hl
  | cons y ys =>
    obtain ⟨cs, h0⟩ := h 0 f rfl
    simp only [List.getElem?_cons_zero] at h0
    obtain ⟨a, a1, a2, a3⟩ := ha _ _ h0
    obtain ⟨b, b1, b2, b3⟩ := hb ys (by simpa using hl) (fun i g hg => by simpa using h (i + 1) g (by simpa using hg))
    exact ⟨(a, b), by simp only [List.map_cons, toldF, a1, b1], ⟨a2, b2⟩, by simp only [List.map_cons, bulkL]; omega⟩
theorem dec_struct {fs : Array Field} {l : List Field} (hu : G.P.underlying t = some (.struct fs)) (hl : fs.toList = l) {cells : A → List PV} {ok : A → Prop} {ms : A → Nat} (h : ∀ m, n = m + 1 → DecF G m l cells ok ms) : Dec G n t cells ok (fun a => ms a + 1) := by
  intro cs x hx
  obtain ⟨xs, m, hm, rfl, hcl, hxl, hxi⟩ := DataW.trod_struct hu hx
  subst hl
  obtain ⟨a, a1, a2, a3⟩ := h m hm xs (by simpa using hxl) (fun i f hf => ⟨_, hxi i f (by simpa using hf)⟩)
  exact ⟨a, by simp only [toldD, hu, a1], a2, by simp only [bulk]; omega⟩
theorem Dec.map {cells : A → List PV} {ok : A → Prop} {ms : A → Nat} (h : Dec G n t cells ok ms) (f : A → B) {cB : B → List PV} {okB : B → Prop} {mB : B → Nat} (hc : ∀ a, cells a = cB (f a)) (ho : ∀ a, ok a → okB (f a)) (hm : ∀ a, mB (f a) ≤ ms a) : Dec G n t cB okB mB := by
  intro cs x hx
  obtain ⟨a, a1, a2, a3⟩ := h cs x hx
  exact ⟨f a, by rw [a1, hc], ho a a2, Nat.le_trans (hm a) a3⟩
def sumL {A : Type} (m : A → Nat) : List A → Nat
  | [] => 0
  | a :: r => m a + sumL m r
theorem uan {cells : A → List PV} {ok : A → Prop} {ms : A → Nat} (h : Dec G n e cells ok ms) {ec : A → PV} (hec : ∀ a, wrapE G.P e (cells a) = ec a) : ∀ (ys : List (DataW H × List MemPlace)), (∀ y ∈ ys, ∃ cs, DataW.trod G.enc G.P G.W G.base G.spare G.held n e cs = some y) →
    ∃ l : List A, toldE G.P e (ys.map (·.1)) = l.map ec ∧ (∀ a ∈ l, ok a) ∧ sumL ms l ≤ bulkL (ys.map (·.1)) ∧ l.length = ys.length
  | [], _ => ⟨[], by simp [toldE], by simp, by simp [sumL], rfl⟩
  | y :: ys, hy => by
    obtain ⟨cs, h0⟩ := hy y (by simp)
    obtain ⟨a, a1, a2, a3⟩ := h _ _ h0
    obtain ⟨l, l1, l2, l3, l4⟩ := uan h hec ys (fun z hz => hy z (by simp [hz]))
    refine ⟨a :: l, ?_, ?_, ?_, by simp [l4]⟩
    · simp only [List.map_cons, toldE, a1, hec, l1]
    · intro b hb
      rcases List.mem_cons.mp hb with rfl | hb
      · exact a2
      · exact l2 b hb
    · simp only [List.map_cons, sumL, bulkL]; omega
theorem dec_list {cells : A → List PV} {ok : A → Prop} {ms : A → Nat} (hu : G.P.underlying t = some (.slice e)) (h : ∀ m, n = m + 1 → Dec G m e cells ok ms) {ec : A → PV} (hec : ∀ a, wrapE G.P e (cells a) = ec a) {sz : Nat} (hsz : G.P.cellsOf e = sz) :
    Dec G n t (fun g : GL A => [LZ g.z sz (g.l.map ec)]) (fun g => ∀ a ∈ g.l, ok a) (fun g => sumL ms g.l + 1) := by
  intro cs x hx
  rcases DataW.trod_slice hu hx with ⟨rfl, rfl⟩ | ⟨a, len, cap, elems, rest, m, hm, rfl, rfl, hb, hlc, hcm, hlen, hel, hre, hno⟩
  · exact ⟨⟨true, []⟩, by simp [toldD, hu, LZ], by simp, by simp [bulk, sumL]⟩
  · obtain ⟨l, l1, l2, l3, l4⟩ := uan (h m hm) hec elems (fun y hy => by
      obtain ⟨i, hi⟩ := List.getElem?_of_mem hy
      have hlt : i < len := by
        have := (List.getElem?_eq_some_iff.mp hi).1
        omega
      have := hel i hlt
      rw [hi, Option.bind_eq_some_iff] at this
      obtain ⟨cs, _, hd⟩ := this
      exact ⟨cs, hd⟩)
    refine ⟨⟨false, l⟩, ?_, l2, by simp only [bulk]; omega⟩
    simp only [toldD, hu, l1, hsz]
    cases l <;> rfl
end
end Go.Proofs.YtiiepllnnjjmaaaDoor.Pi
namespace Go.Proofs.YtiiepllnnjjmaaaDoor.Pi
open Go.ChangeShapes Go.WideShapes
theorem rep_agg {P : Program} {W : World} {base : Nat} {t : TypeId} {fs : Array Field} {v : Value} {ps : List PV} (hu : P.underlying t = some (.struct fs)) (hok : Value.okWide P W .any base t v) (ht : ToldOk W v.cells.toList ps) : Rep [] (imOf W) (.agg ps) v := by
  unfold Value.okWide at hok
  rw [hu] at hok
  obtain ⟨cs, rfl, _, _⟩ := hok
  obtain ⟨h1, h2⟩ := ht
  refine .agg (by simpa [Value.cells] using h1.symm) (fun j c hj => (h2 j c hj).1) fun j c v hc hv => .flat ((h2 j c hc).2 v (by simpa [Value.cells] using hv))
theorem args_nil {im : Nat → Nat → Option Value} : ArgsOk (gOf im) [] #[] := ⟨rfl, fun j p v hp => by simp at hp⟩
theorem args_cons {im : Nat → Nat → Option Value} {p : PV} {v : Value} {ps : List PV} {vs : List Value} (h : Rep [] im p v) (hs : strip p = p) (hr : ArgsOk (gOf im) ps vs.toArray) : ArgsOk (gOf im) (p :: ps) (v :: vs).toArray := by
  refine ⟨by have := hr.size; simp at this ⊢; exact this, fun j q u hq hu => ?_⟩
  cases j with
  | zero =>
    simp at hq hu
    subst hq; subst hu
    exact ⟨.one (.pure h), hs⟩
  | succ j =>
    exact hr.rep j q u (by simpa using hq) (by simpa using hu)
end Go.Proofs.YtiiepllnnjjmaaaDoor.Pi
namespace Go.Proofs.YtiiepllnnjjmaaaDoor.Pi
open Go.ChangeShapes Go.WideShapes
structure ASl where
  z : Bool
  sz : Nat
  xs : List PV
variable {H : Type} {G : DecArgs H} {n : Nat} {t e : TypeId}
end Go.Proofs.YtiiepllnnjjmaaaDoor.Pi
namespace Go.Proofs.YtiiepllnnjjmaaaDoor.Pi.Q
open Go Go.Proofs.YtiiepllnnjjmaaaDoor.Pi
def cs_V (v : VT) : List PV := [.int .i64 v.num, .bool v.nul, .int .i64 v.heap]
def ok_V (v : VT) : Prop := (Lit.int .i64 v.num).wf = true ∧ True ∧ (Lit.int .i64 v.heap).wf = true ∧ True
def ms_V (v : VT) : Nat := 1 + (1 + (1 + (0))) + 1
def cs_F (v : FT) : List PV := [.int .i64 v.ty.num, .bool v.ty.nul, .int .i64 v.ty.heap, .bool v.mu]
def ok_F (v : FT) : Prop := ok_V v.ty ∧ True ∧ True
def ms_F (v : FT) : Nat := ms_V v.ty + (1 + (0)) + 1
structure CG where
  kind : Int
  ps : GL (VT)
  rs : GL (VT)
  fs : GL (FT)
  deriving DecidableEq
def cs_CG (v : CG) : List PV := [.int .i64 v.kind, LZ v.ps.z 3 (v.ps.l.map encV), LZ v.rs.z 3 (v.rs.l.map encV), LZ v.fs.z 4 (v.fs.l.map encF)]
def ok_CG (v : CG) : Prop := (Lit.int .i64 v.kind).wf = true ∧ (∀ a ∈ v.ps.l, ok_V a) ∧ (∀ a ∈ v.rs.l, ok_V a) ∧ (∀ a ∈ v.fs.l, ok_F a) ∧ True
def ms_CG (v : CG) : Nat := 1 + ((sumL (fun a => ms_V a) v.ps.l + 1) + ((sumL (fun a => ms_V a) v.rs.l + 1) + ((sumL (fun a => ms_F a) v.fs.l + 1) + (0)))) + 1
structure SG where
  fin : Bool
  sup : GL (Int)
  comp : CG
  deriving DecidableEq
def cs_SG (v : SG) : List PV := [.bool v.fin, LZ v.sup.z 1 (v.sup.l.map encI), .int .i64 v.comp.kind, LZ v.comp.ps.z 3 (v.comp.ps.l.map encV), LZ v.comp.rs.z 3 (v.comp.rs.l.map encV), LZ v.comp.fs.z 4 (v.comp.fs.l.map encF)]
def ok_SG (v : SG) : Prop := True ∧ (∀ a ∈ v.sup.l, (Lit.int .i64 a).wf = true) ∧ ok_CG v.comp ∧ True
def ms_SG (v : SG) : Nat := 1 + ((sumL (fun a => 1) v.sup.l + 1) + (ms_CG v.comp + (0))) + 1
def encSG (v : SG) : PV := .agg [.bool v.fin, LZ v.sup.z 1 (v.sup.l.map encI), .int .i64 v.comp.kind, LZ v.comp.ps.z 3 (v.comp.ps.l.map encV), LZ v.comp.rs.z 3 (v.comp.rs.l.map encV), LZ v.comp.fs.z 4 (v.comp.fs.l.map encF)]
structure RG where
  types : GL (SG)
  exp : Bool
  deriving DecidableEq
def cs_RG (v : RG) : List PV := [LZ v.types.z 6 (v.types.l.map encSG), .bool v.exp]
def ok_RG (v : RG) : Prop := (∀ a ∈ v.types.l, ok_SG a) ∧ True ∧ True
def ms_RG (v : RG) : Nat := (sumL (fun a => ms_SG a) v.types.l + 1) + (1 + (0)) + 1
structure LT where
  wide : Bool
  min : Int
  max : Int
  has : Bool
  deriving DecidableEq
def CG.plain (v : CG) : CT := ⟨v.kind, v.ps.l, v.rs.l, v.fs.l⟩
def SG.plain (v : SG) : ST := ⟨v.fin, v.sup.l, v.comp.plain⟩
def RG.plain (v : RG) : RT := ⟨v.types.l.map SG.plain, v.exp⟩
def CT.gl (v : CT) : CG := ⟨v.kind, ⟨true, v.ps⟩, ⟨true, v.rs⟩, ⟨true, v.fs⟩⟩
def ST.gl (v : ST) : SG := ⟨v.fin, ⟨true, v.sup⟩, v.comp.gl⟩
def RT.gl (v : RT) : RG := ⟨⟨true, v.types.map ST.gl⟩, v.exp⟩
end Go.Proofs.YtiiepllnnjjmaaaDoor.Pi.Q
namespace Go.Proofs.YtiiepllnnjjmaaaDoor.Pi.Q
open Go Go.Proofs.YtiiepllnnjjmaaaDoor.Pi
structure TB where
  elem : VT
  lim : LT
  deriving DecidableEq
structure GO where
  ty : VT
  mu : Bool
  deriving DecidableEq
structure XT where
  kind : Int
  ty : Int
  tab : TB
  mem : LT
  glo : GO
  deriving DecidableEq
structure IM where
  mod : ByteArray
  nm : ByteArray
  ext : XT
  deriving DecidableEq
structure EX where
  nm : ByteArray
  kind : Int
  pl : Int
  deriving DecidableEq
end Go.Proofs.YtiiepllnnjjmaaaDoor.Pi.Q
namespace Go.Proofs.YtiiepllnnjjmaaaDoor.Pi.Q
open Go Go.Proofs.YtiiepllnnjjmaaaDoor.Pi
inductive Like : List SK → List PV → List PV → Prop where
  | nil : Like [] [] []
  | int {k : IntKind} {a b : Int} {ks : List SK} {x y : List PV} (h : Like ks x y) : Like (.int :: ks) (.int k a :: x) (.int k b :: y)
  | bool {a b : Bool} {ks : List SK} {x y : List PV} (h : Like ks x y) : Like (.bool :: ks) (.bool a :: x) (.bool b :: y)
  | str {a b : ByteArray} {ks : List SK} {x y : List PV} (h : Like ks x y) : Like (.str :: ks) (.str a :: x) (.str b :: y)
theorem beq_ba {a b : ByteArray} : (a == b) = true ↔ a = b := by
  obtain ⟨a⟩ := a
  obtain ⟨b⟩ := b
  show (a == b) = true ↔ _
  rw [beq_iff_eq]
  exact ⟨fun h => by rw [h], fun h => by injection h⟩
theorem ukr {ks : List SK} {x y : List PV} (h : Like ks x y) : (x = y → u0q ks x y = some true) ∧ (x ≠ y → u0q ks x y = some false) := by
  induction h with
  | nil => exact ⟨fun _ => rfl, fun h => absurd rfl h⟩
  | @int k a b ks x y h ih =>
    have e : u0q (.int :: ks) (.int k a :: x) (.int k b :: y) = if a = b then u0q ks x y else some false := by
      by_cases h : a = b
      · subst h
        have e1 : u0s .int (.int k a) (.int k a) = some true := by simp [u0s]
        rw [if_pos rfl, u0q, e1]
      · have e1 : u0s .int (.int k a) (.int k b) = some false := by simp [u0s, h]
        rw [if_neg h, u0q, e1]
    rw [e]
    constructor
    · intro hxy
      simp only [List.cons.injEq, PV.int.injEq, true_and] at hxy
      rw [if_pos hxy.1]
      exact ih.1 hxy.2
    · intro hxy
      by_cases hab : a = b
      · rw [if_pos hab]
        exact ih.2 fun g => hxy (by rw [hab, g])
      · rw [if_neg hab]
  | @bool a b ks x y h ih =>
    have e : u0q (.bool :: ks) (.bool a :: x) (.bool b :: y) = if a = b then u0q ks x y else some false := by
      by_cases h : a = b
      · subst h
        have e1 : u0s .bool (.bool a) (.bool a) = some true := by simp [u0s]
        rw [if_pos rfl, u0q, e1]
      · have e1 : u0s .bool (.bool a) (.bool b) = some false := by simp [u0s, h]
        rw [if_neg h, u0q, e1]
    rw [e]
    constructor
    · intro hxy
      simp only [List.cons.injEq, PV.bool.injEq] at hxy
      rw [if_pos hxy.1]
      exact ih.1 hxy.2
    · intro hxy
      by_cases hab : a = b
      · rw [if_pos hab]
        exact ih.2 fun g => hxy (by rw [hab, g])
      · rw [if_neg hab]
  | @str a b ks x y h ih =>
    have e : u0q (.str :: ks) (.str a :: x) (.str b :: y) = if a = b then u0q ks x y else some false := by
      by_cases h : a = b
      · subst h
        have := beq_ba.mpr (rfl : a = a)
        simp only [u0q, u0s, this, if_true]
      · have : (a == b) = false := by
          cases hb : (a == b) with
          | false => rfl
          | true => exact absurd (beq_ba.mp hb) h
        simp only [u0q, u0s, this, if_neg h]
    rw [e]
    constructor
    · intro hxy
      simp only [List.cons.injEq, PV.str.injEq] at hxy
      rw [if_pos hxy.1]
      exact ih.1 hxy.2
    · intro hxy
      by_cases hab : a = b
      · rw [if_pos hab]
        exact ih.2 fun g => hxy (by rw [hab, g])
      · rw [if_neg hab]
theorem uks {ks : List SK} {x y : List PV} {H : Heap} (h : Like ks x y) {p : Prop} [Decidable p] (hp : x = y ↔ p) : run (bi .eql (.struct ks) (.agg x) (.agg y)) H = some (.ok (.bool (decide p)) H) := by
  have hh := ukr h
  show (match u0q ks x y with | some b => M.pure (PV.bool b) | none => M.fail) H = _
  by_cases g : x = y
  · rw [hh.1 g, decide_eq_true (hp.mp g)]; rfl
  · rw [hh.2 g, decide_eq_false (fun q => g (hp.mpr q))]; rfl
end Go.Proofs.YtiiepllnnjjmaaaDoor.Pi.Q
namespace Go.Proofs.YtiiepllnnjjmaaaDoor.Pi.Q
open Go Go.Proofs.YtiiepllnnjjmaaaDoor.Pi
def sameV (a b : VT) : Bool := if a.num = 5 ∧ b.num = 5 then decide (a = b) else a.num == b.num
def sameF (a b : FT) : Bool := a.mu == b.mu && sameV a.ty b.ty
def sameZ {α : Type} (f : α → α → Bool) : List α → List α → Bool
  | a :: l, b :: m => f a b && sameZ f l m
  | _, _ => true
def sameL {α : Type} (f : α → α → Bool) (l m : List α) : Bool := (l.length : Int) == (m.length : Int) && sameZ f l m
def sameS (a b : ST) : Bool := a.fin == b.fin && (sameL (fun x y : Int => x == y) a.sup b.sup && (a.comp.kind == b.comp.kind && (sameL sameV a.comp.ps b.comp.ps && (sameL sameV a.comp.rs b.comp.rs && sameL sameF a.comp.fs b.comp.fs))))
def sameR (a b : RT) : Bool := a.exp == b.exp && sameL sameS a.types b.types
theorem ujy {a b : VT} : sameV a b = (a.num == b.num && (!(a.num == 5) || (a.nul == b.nul && a.heap == b.heap))) := by
  obtain ⟨n, t, h⟩ := a
  obtain ⟨m, u, k⟩ := b
  unfold sameV
  simp only [VT.mk.injEq]
  rw [Bool.eq_iff_iff]
  by_cases h1 : n = 5
  · subst h1
    by_cases h2 : m = 5
    · subst h2; simp
    · simp [h2, Ne.symm h2]
  · simp [h1]
theorem u8t {α : Type} {f : α → α → Bool} (hf : ∀ a, f a a = true) : ∀ l, sameZ f l l = true
  | [] => rfl
  | a :: l => by rw [sameZ, hf, u8t hf l]; rfl
theorem u38 {α : Type} {f : α → α → Bool} (hf : ∀ a, f a a = true) (l : List α) : sameL f l l = true := by
  unfold sameL
  rw [u8t hf, beq_self_eq_true]
  rfl
theorem u4i (a : VT) : sameV a a = true := by
  unfold sameV
  split
  · simp
  · simp
theorem uge (a : FT) : sameF a a = true := by unfold sameF; rw [u4i, beq_self_eq_true]; rfl
theorem ugm (a : ST) : sameS a a = true := by
  unfold sameS
  rw [u38 (by simp), u38 u4i, u38 u4i, u38 uge]
  simp
theorem ugi (a : RT) : sameR a a = true := by
  unfold sameR
  rw [u38 ugm]
  simp
theorem u20 {α : Type} {f : α → α → Bool} {l m : List α} {i : Nat} (hl : i < l.length) (hm : i < m.length) : sameZ f (l.drop i) (m.drop i) = (f l[i] m[i] && sameZ f (l.drop (i + 1)) (m.drop (i + 1))) := by
  rw [List.drop_eq_getElem_cons hl, List.drop_eq_getElem_cons hm, sameZ]
theorem u2i {α : Type} {f : α → α → Bool} {l m : List α} {i : Nat} (hl : l.length ≤ i) : sameZ f (l.drop i) (m.drop i) = true := by
  rw [List.drop_eq_nil_of_le hl]
  unfold sameZ
  rfl
theorem ub6 {α β : Type} {f : β → β → Bool} {g : α → β} : ∀ (l m : List α), sameZ (fun a b => f (g a) (g b)) l m = sameZ f (l.map g) (m.map g)
  | [], m => by unfold sameZ; rfl
  | a :: l, [] => rfl
  | a :: l, b :: m => by rw [sameZ, ub6 l m]; rfl
theorem ub4 {α β : Type} {f : β → β → Bool} {g : α → β} (l m : List α) : sameL (fun a b => f (g a) (g b)) l m = sameL f (l.map g) (m.map g) := by
  unfold sameL
  rw [ub6, List.length_map, List.length_map]
end Go.Proofs.YtiiepllnnjjmaaaDoor.Pi.Q
namespace Go.Proofs.YtiiepllnnjjmaaaDoor.Pi.Q
open Go Go.Proofs.YtiiepllnnjjmaaaDoor.Pi
attribute [local congr] ite_congr
theorem u8m {H : Heap} {f v6 : PV} {z1 z2 : Bool} {s : VT → VT → Bool} {l m : List VT} (hl : l.length < 2 ^ 62) (hm : l.length = m.length) (hf : strip f = f) (hone : ∀ K a b, a ∈ l → b ∈ m → run (callV P C f [.agg [.int .i64 a.num, .bool a.nul, .int .i64 a.heap], .agg [.int .i64 b.num, .bool b.nul, .int .i64 b.heap]]) K = some (.ok (.bool (s a b)) K)) : ∀ (k i : Nat), i + k = l.length →
    run (u0h (LZ z1 3 (l.map encV)) (LZ z2 3 (m.map encV)) f v6 (.int .i64 l.length) (.int .i64 i)) H = some (.ok (.bool (sameZ s (l.drop i) (m.drop i))) H)
  | 0, i, h => by
    rw [u1c, u2i (by omega)]
    have c1 : ((i : Int) < l.length) = False := eq_false (by omega)
    simp +contextual -dsimp (disch := omega) only [↓goDown, goUp, cr, simprocAttr, c1]
  | k + 1, i, h => by
    have ih := u8m (H := H) (v6 := v6) (z1 := z1) (z2 := z2) hl hm hf hone k (i + 1) (by omega)
    have hi : i < l.length := by omega
    have hj : i < m.length := by omega
    rw [u1c, u20 hi hj]
    have c1 : ((i : Int) < l.length) = True := eq_true (by omega)
    have hga : (l.map encV)[i]? = some (encV l[i]) := by simp [hi]
    have hgb : (m.map encV)[i]? = some (encV m[i]) := by simp [hj]
    have hia : ∀ K, run (iaS 3 (LZ z1 3 (l.map encV)) (.int .i64 i)) K = some (.ok (.elem [.int .i64 l[i].num, .bool l[i].nul, .int .i64 l[i].heap]) K) := fun K => ia_Z hga
    have hib : ∀ K, run (iaS 3 (LZ z2 3 (m.map encV)) (.int .i64 i)) K = some (.ok (.elem [.int .i64 m[i].num, .bool m[i].nul, .int .i64 m[i].heap]) K) := fun K => ia_Z hgb
    have hs := fun K => hone K l[i] m[i] (List.getElem_mem hi) (List.getElem_mem hj)
    cases hc : s l[i] m[i] with
    | true =>
      rw [hc] at hs
      simp +contextual -dsimp (disch := omega) only [↓goDown, goUp, cr, simprocAttr, c1, hf, hia, hib, hs, un_not, ns, u06, ln_Z, u0m, u09, low_Z, u08, u0n]
      exact ih
    | false =>
      rw [hc] at hs
      simp +contextual -dsimp (disch := omega) only [↓goDown, goUp, cr, simprocAttr, c1, hf, hia, hib, hs, un_not, ns, u06, ln_Z, u0m, u09, low_Z, u08, u0n]
      all_goals rfl
theorem uam {H : Heap} {f : PV} {z1 z2 : Bool} {s : VT → VT → Bool} {l m : List VT} (hl : l.length < 2 ^ 62) (hf : strip f = f) (hone : ∀ K a b, a ∈ l → b ∈ m → run (callV P C f [.agg [.int .i64 a.num, .bool a.nul, .int .i64 a.heap], .agg [.int .i64 b.num, .bool b.nul, .int .i64 b.heap]]) K = some (.ok (.bool (s a b)) K)) :
    run (C u0j [LZ z1 3 (l.map encV), LZ z2 3 (m.map encV), f]) H = some (.ok (.bool (sameL s l m)) H) := by
  rw [u2w]
  unfold sameL
  by_cases h : l.length = m.length
  · have hlp := fun v6 => u8m (H := H) (v6 := v6) (z1 := z1) (z2 := z2) hl h hf hone l.length 0 (by omega)
    simp only [List.drop_zero, show ((0 : Nat) : Int) = 0 from rfl] at hlp
    have e1 : ((l.length : Int) == (m.length : Int)) = true := by rw [h]; exact beq_self_eq_true _
    have e2 : ((l.length : Int) != (m.length : Int)) = false := by rw [bne, e1]; rfl
    simp +contextual -dsimp (disch := omega) only [↓goDown, goUp, cr, simprocAttr, hf, u06, ln_Z, List.length_map, e1, e2, hlp, Bool.true_and]
  · have e1 : ((l.length : Int) == (m.length : Int)) = false := beq_false_of_ne (by omega)
    have e2 : ((l.length : Int) != (m.length : Int)) = true := by rw [bne, e1]; rfl
    simp +contextual -dsimp (disch := omega) only [↓goDown, goUp, cr, simprocAttr, hf, u06, ln_Z, List.length_map, e1, e2, Bool.false_and]
theorem u8n {H : Heap} {f v6 : PV} {z1 z2 : Bool} {s : Int → Int → Bool} {l m : List Int} (hl : l.length < 2 ^ 62) (hm : l.length = m.length) (hf : strip f = f) (hone : ∀ K a b, a ∈ l → b ∈ m → run (callV P C f [.int .i64 a, .int .i64 b]) K = some (.ok (.bool (s a b)) K)) : ∀ (k i : Nat), i + k = l.length →
    run (u15 (LZ z1 1 (l.map encI)) (LZ z2 1 (m.map encI)) f v6 (.int .i64 l.length) (.int .i64 i)) H = some (.ok (.bool (sameZ s (l.drop i) (m.drop i))) H)
  | 0, i, h => by
    rw [u1s, u2i (by omega)]
    have c1 : ((i : Int) < l.length) = False := eq_false (by omega)
    simp +contextual -dsimp (disch := omega) only [↓goDown, goUp, cr, simprocAttr, c1]
  | k + 1, i, h => by
    have ih := u8n (H := H) (v6 := v6) (z1 := z1) (z2 := z2) hl hm hf hone k (i + 1) (by omega)
    have hi : i < l.length := by omega
    have hj : i < m.length := by omega
    rw [u1s, u20 hi hj]
    have c1 : ((i : Int) < l.length) = True := eq_true (by omega)
    have hga : (l.map encI)[i]? = some (encI l[i]) := by simp [hi]
    have hgb : (m.map encI)[i]? = some (encI m[i]) := by simp [hj]
    have hia : ∀ K, run (iaS 1 (LZ z1 1 (l.map encI)) (.int .i64 i)) K = some (.ok (.elem [.int .i64 l[i]]) K) := fun K => ia_Z hga
    have hib : ∀ K, run (iaS 1 (LZ z2 1 (m.map encI)) (.int .i64 i)) K = some (.ok (.elem [.int .i64 m[i]]) K) := fun K => ia_Z hgb
    have hs := fun K => hone K l[i] m[i] (List.getElem_mem hi) (List.getElem_mem hj)
    cases hc : s l[i] m[i] with
    | true =>
      rw [hc] at hs
      simp +contextual -dsimp (disch := omega) only [↓goDown, goUp, cr, simprocAttr, c1, hf, hia, hib, hs, un_not, ns, u06, ln_Z, u0m, u09, low_Z, u08, u0n]
      exact ih
    | false =>
      rw [hc] at hs
      simp +contextual -dsimp (disch := omega) only [↓goDown, goUp, cr, simprocAttr, c1, hf, hia, hib, hs, un_not, ns, u06, ln_Z, u0m, u09, low_Z, u08, u0n]
      all_goals rfl
theorem uho {H : Heap} {f : PV} {z1 z2 : Bool} {s : Int → Int → Bool} {l m : List Int} (hl : l.length < 2 ^ 62) (hf : strip f = f) (hone : ∀ K a b, a ∈ l → b ∈ m → run (callV P C f [.int .i64 a, .int .i64 b]) K = some (.ok (.bool (s a b)) K)) :
    run (C u1r [LZ z1 1 (l.map encI), LZ z2 1 (m.map encI), f]) H = some (.ok (.bool (sameL s l m)) H) := by
  rw [u5k]
  unfold sameL
  by_cases h : l.length = m.length
  · have hlp := fun v6 => u8n (H := H) (v6 := v6) (z1 := z1) (z2 := z2) hl h hf hone l.length 0 (by omega)
    simp only [List.drop_zero, show ((0 : Nat) : Int) = 0 from rfl] at hlp
    have e1 : ((l.length : Int) == (m.length : Int)) = true := by rw [h]; exact beq_self_eq_true _
    have e2 : ((l.length : Int) != (m.length : Int)) = false := by rw [bne, e1]; rfl
    simp +contextual -dsimp (disch := omega) only [↓goDown, goUp, cr, simprocAttr, hf, u06, ln_Z, List.length_map, e1, e2, hlp, Bool.true_and]
  · have e1 : ((l.length : Int) == (m.length : Int)) = false := beq_false_of_ne (by omega)
    have e2 : ((l.length : Int) != (m.length : Int)) = true := by rw [bne, e1]; rfl
    simp +contextual -dsimp (disch := omega) only [↓goDown, goUp, cr, simprocAttr, hf, u06, ln_Z, List.length_map, e1, e2, Bool.false_and]
theorem u73 {H : Heap} {f v6 : PV} {z1 z2 : Bool} {s : FT → FT → Bool} {l m : List FT} (hl : l.length < 2 ^ 62) (hm : l.length = m.length) (hf : strip f = f) (hone : ∀ K a b, a ∈ l → b ∈ m → run (callV P C f [.agg [.int .i64 a.ty.num, .bool a.ty.nul, .int .i64 a.ty.heap, .bool a.mu], .agg [.int .i64 b.ty.num, .bool b.ty.nul, .int .i64 b.ty.heap, .bool b.mu]]) K = some (.ok (.bool (s a b)) K)) : ∀ (k i : Nat), i + k = l.length →
    run (u0k (LZ z1 4 (l.map encF)) (LZ z2 4 (m.map encF)) f v6 (.int .i64 l.length) (.int .i64 i)) H = some (.ok (.bool (sameZ s (l.drop i) (m.drop i))) H)
  | 0, i, h => by
    rw [u1i, u2i (by omega)]
    have c1 : ((i : Int) < l.length) = False := eq_false (by omega)
    simp +contextual -dsimp (disch := omega) only [↓goDown, goUp, cr, simprocAttr, c1]
  | k + 1, i, h => by
    have ih := u73 (H := H) (v6 := v6) (z1 := z1) (z2 := z2) hl hm hf hone k (i + 1) (by omega)
    have hi : i < l.length := by omega
    have hj : i < m.length := by omega
    rw [u1i, u20 hi hj]
    have c1 : ((i : Int) < l.length) = True := eq_true (by omega)
    have hga : (l.map encF)[i]? = some (encF l[i]) := by simp [hi]
    have hgb : (m.map encF)[i]? = some (encF m[i]) := by simp [hj]
    have hia : ∀ K, run (iaS 4 (LZ z1 4 (l.map encF)) (.int .i64 i)) K = some (.ok (.elem [.int .i64 l[i].ty.num, .bool l[i].ty.nul, .int .i64 l[i].ty.heap, .bool l[i].mu]) K) := fun K => ia_Z hga
    have hib : ∀ K, run (iaS 4 (LZ z2 4 (m.map encF)) (.int .i64 i)) K = some (.ok (.elem [.int .i64 m[i].ty.num, .bool m[i].ty.nul, .int .i64 m[i].ty.heap, .bool m[i].mu]) K) := fun K => ia_Z hgb
    have hs := fun K => hone K l[i] m[i] (List.getElem_mem hi) (List.getElem_mem hj)
    cases hc : s l[i] m[i] with
    | true =>
      rw [hc] at hs
      simp +contextual -dsimp (disch := omega) only [↓goDown, goUp, cr, simprocAttr, c1, hf, hia, hib, hs, un_not, ns, u06, ln_Z, u0m, u09, low_Z, u08, u0n]
      exact ih
    | false =>
      rw [hc] at hs
      simp +contextual -dsimp (disch := omega) only [↓goDown, goUp, cr, simprocAttr, c1, hf, hia, hib, hs, un_not, ns, u06, ln_Z, u0m, u09, low_Z, u08, u0n]
      all_goals rfl
theorem ui8 {H : Heap} {f : PV} {z1 z2 : Bool} {s : FT → FT → Bool} {l m : List FT} (hl : l.length < 2 ^ 62) (hf : strip f = f) (hone : ∀ K a b, a ∈ l → b ∈ m → run (callV P C f [.agg [.int .i64 a.ty.num, .bool a.ty.nul, .int .i64 a.ty.heap, .bool a.mu], .agg [.int .i64 b.ty.num, .bool b.ty.nul, .int .i64 b.ty.heap, .bool b.mu]]) K = some (.ok (.bool (s a b)) K)) :
    run (C u14 [LZ z1 4 (l.map encF), LZ z2 4 (m.map encF), f]) H = some (.ok (.bool (sameL s l m)) H) := by
  rw [u31]
  unfold sameL
  by_cases h : l.length = m.length
  · have hlp := fun v6 => u73 (H := H) (v6 := v6) (z1 := z1) (z2 := z2) hl h hf hone l.length 0 (by omega)
    simp only [List.drop_zero, show ((0 : Nat) : Int) = 0 from rfl] at hlp
    have e1 : ((l.length : Int) == (m.length : Int)) = true := by rw [h]; exact beq_self_eq_true _
    have e2 : ((l.length : Int) != (m.length : Int)) = false := by rw [bne, e1]; rfl
    simp +contextual -dsimp (disch := omega) only [↓goDown, goUp, cr, simprocAttr, hf, u06, ln_Z, List.length_map, e1, e2, hlp, Bool.true_and]
  · have e1 : ((l.length : Int) == (m.length : Int)) = false := beq_false_of_ne (by omega)
    have e2 : ((l.length : Int) != (m.length : Int)) = true := by rw [bne, e1]; rfl
    simp +contextual -dsimp (disch := omega) only [↓goDown, goUp, cr, simprocAttr, hf, u06, ln_Z, List.length_map, e1, e2, Bool.false_and]
theorem u7z {H : Heap} {f v6 : PV} {z1 z2 : Bool} {s : SG → SG → Bool} {l m : List SG} (hl : l.length < 2 ^ 62) (hm : l.length = m.length) (hf : strip f = f) (hone : ∀ K a b, a ∈ l → b ∈ m → run (callV P C f [.agg (cs_SG a), .agg (cs_SG b)]) K = some (.ok (.bool (s a b)) K)) : ∀ (k i : Nat), i + k = l.length →
    run (u0e (LZ z1 6 (l.map encSG)) (LZ z2 6 (m.map encSG)) f v6 (.int .i64 l.length) (.int .i64 i)) H = some (.ok (.bool (sameZ s (l.drop i) (m.drop i))) H)
  | 0, i, h => by
    rw [u1d, u2i (by omega)]
    have c1 : ((i : Int) < l.length) = False := eq_false (by omega)
    simp +contextual -dsimp (disch := omega) only [↓goDown, goUp, cr, simprocAttr, c1]
  | k + 1, i, h => by
    have ih := u7z (H := H) (v6 := v6) (z1 := z1) (z2 := z2) hl hm hf hone k (i + 1) (by omega)
    have hi : i < l.length := by omega
    have hj : i < m.length := by omega
    rw [u1d, u20 hi hj]
    have c1 : ((i : Int) < l.length) = True := eq_true (by omega)
    have hga : (l.map encSG)[i]? = some (encSG l[i]) := by simp [hi]
    have hgb : (m.map encSG)[i]? = some (encSG m[i]) := by simp [hj]
    have hia : ∀ K, run (iaS 6 (LZ z1 6 (l.map encSG)) (.int .i64 i)) K = some (.ok (.elem (cs_SG l[i])) K) := fun K => ia_Z hga
    have hib : ∀ K, run (iaS 6 (LZ z2 6 (m.map encSG)) (.int .i64 i)) K = some (.ok (.elem (cs_SG m[i])) K) := fun K => ia_Z hgb
    have hs := fun K => hone K l[i] m[i] (List.getElem_mem hi) (List.getElem_mem hj)
    unfold cs_SG at hia hib hs
    cases hc : s l[i] m[i] with
    | true =>
      rw [hc] at hs
      simp +contextual -dsimp (disch := omega) only [↓goDown, goUp, cr, simprocAttr, c1, hf, hia, hib, hs, un_not, ns, u06, ln_Z, u0m, u09, low_Z, u08, u0n]
      exact ih
    | false =>
      rw [hc] at hs
      simp +contextual -dsimp (disch := omega) only [↓goDown, goUp, cr, simprocAttr, c1, hf, hia, hib, hs, un_not, ns, u06, ln_Z, u0m, u09, low_Z, u08, u0n]
      all_goals rfl
theorem uim {H : Heap} {f : PV} {z1 z2 : Bool} {s : SG → SG → Bool} {l m : List SG} (hl : l.length < 2 ^ 62) (hf : strip f = f) (hone : ∀ K a b, a ∈ l → b ∈ m → run (callV P C f [.agg (cs_SG a), .agg (cs_SG b)]) K = some (.ok (.bool (s a b)) K)) :
    run (C u0z [LZ z1 6 (l.map encSG), LZ z2 6 (m.map encSG), f]) H = some (.ok (.bool (sameL s l m)) H) := by
  rw [u2t]
  unfold sameL
  by_cases h : l.length = m.length
  · have hlp := fun v6 => u7z (H := H) (v6 := v6) (z1 := z1) (z2 := z2) hl h hf hone l.length 0 (by omega)
    simp only [List.drop_zero, show ((0 : Nat) : Int) = 0 from rfl] at hlp
    have e1 : ((l.length : Int) == (m.length : Int)) = true := by rw [h]; exact beq_self_eq_true _
    have e2 : ((l.length : Int) != (m.length : Int)) = false := by rw [bne, e1]; rfl
    simp +contextual -dsimp (disch := omega) only [↓goDown, goUp, cr, simprocAttr, hf, u06, ln_Z, List.length_map, e1, e2, hlp, Bool.true_and]
  · have e1 : ((l.length : Int) == (m.length : Int)) = false := beq_false_of_ne (by omega)
    have e2 : ((l.length : Int) != (m.length : Int)) = true := by rw [bne, e1]; rfl
    simp +contextual -dsimp (disch := omega) only [↓goDown, goUp, cr, simprocAttr, hf, u06, ln_Z, List.length_map, e1, e2, Bool.false_and]
end Go.Proofs.YtiiepllnnjjmaaaDoor.Pi.Q
namespace Go.Proofs.YtiiepllnnjjmaaaDoor.Pi.Q
open Go Go.Proofs.YtiiepllnnjjmaaaDoor.Pi
attribute [local congr] ite_congr
theorem eqlB {H : Heap} {a b : Bool} : run (bi .eql .bool (.bool a) (.bool b)) H = some (.ok (.bool (a == b)) H) := by cases a <;> cases b <;> rfl
theorem neqB {H : Heap} {a b : Bool} : run (bi .neq .bool (.bool a) (.bool b)) H = some (.ok (.bool (a != b)) H) := by cases a <;> cases b <;> rfl
theorem eqlI {H : Heap} {k : IntKind} {a b : Int} : run (bi .eql .none (.int k a) (.int k b)) H = some (.ok (.bool (a == b)) H) := by
  unfold run
  rw [bi_eql]
  rfl
theorem u1q (b : Bool) : ∃ x, b = x := ⟨_, rfl⟩
theorem eql_VV {H : Heap} {a b : VT} : run (bi .eql (.struct [.int, .bool, .int]) (.agg [.int .i64 a.num, .bool a.nul, .int .i64 a.heap]) (.agg [.int .i64 b.num, .bool b.nul, .int .i64 b.heap])) H = some (.ok (.bool (decide (a = b))) H) := by
  obtain ⟨a1, a2, a3⟩ := a
  obtain ⟨b1, b2, b3⟩ := b
  exact uks (.int (.bool (.int .nil))) (p := (⟨a1, a2, a3⟩ : VT) = ⟨b1, b2, b3⟩) (by simp)
theorem pSame {H : Heap} {a b : VT} : run (C u1f [.agg [.int .i64 a.num, .bool a.nul, .int .i64 a.heap], .agg [.int .i64 b.num, .bool b.nul, .int .i64 b.heap]]) H = some (.ok (.bool (sameV a b)) H) := by
  have he := fun K => eql_VV (H := K) (a := a) (b := b)
  rw [uag]
  unfold sameV
  by_cases h1 : a.num = 5
  · by_cases h2 : b.num = 5
    · rw [if_pos ⟨h1, h2⟩]
      simp +contextual -dsimp (disch := omega) only [↓goDown, goUp, cr, simprocAttr, eq_true h1, eq_true h2, he]
    · rw [if_neg (fun h => h2 h.2)]
      simp +contextual -dsimp (disch := omega) only [↓goDown, goUp, cr, simprocAttr, eq_true h1, eq_false h2, he, eqlI]
  · rw [if_neg (fun h => h1 h.1)]
    simp +contextual -dsimp (disch := omega) only [↓goDown, goUp, cr, simprocAttr, eq_false h1, he, eqlI]
theorem rSameV {H : Heap} {a b : VT} : run (C u1a [.agg [.int .i64 a.num, .bool a.nul, .int .i64 a.heap], .agg [.int .i64 b.num, .bool b.nul, .int .i64 b.heap]]) H = some (.ok (.bool (sameV a b)) H) := by
  rw [u4t, ujy]
  obtain ⟨x1, h1⟩ := u1q (a.num == b.num)
  obtain ⟨x2, h2⟩ := u1q (a.nul == b.nul)
  obtain ⟨x3, h3⟩ := u1q (a.heap == b.heap)
  by_cases h5 : a.num = 5
  · have e5 : (a.num == 5) = true := beq_iff_eq.mpr h5
    have e6 : (a.num != 5) = false := by rw [bne, e5]; rfl
    rw [e5]
    cases x1 <;> cases x2 <;> cases x3 <;>
      simp +contextual -dsimp (disch := omega) only [↓goDown, goUp, cr, simprocAttr, h1, h2, h3, eq_true h5, e5, e6, eqlI, eqlB, Bool.not_true, Bool.false_or, Bool.true_and, Bool.false_and]
  · have e5 : (a.num == 5) = false := beq_false_of_ne h5
    have e6 : (a.num != 5) = true := by rw [bne, e5]; rfl
    rw [e5]
    cases x1 <;>
      simp +contextual -dsimp (disch := omega) only [↓goDown, goUp, cr, simprocAttr, h1, eq_false h5, e5, e6, eqlI, eqlB, Bool.not_false, Bool.true_or, Bool.true_and, Bool.false_and]
theorem pField {H : Heap} {a b : FT} : run (C u18 [.agg [.int .i64 a.ty.num, .bool a.ty.nul, .int .i64 a.ty.heap, .bool a.mu], .agg [.int .i64 b.ty.num, .bool b.ty.nul, .int .i64 b.ty.heap, .bool b.mu]]) H = some (.ok (.bool (sameF a b)) H) := by
  have hs := fun K => pSame (H := K) (a := a.ty) (b := b.ty)
  rw [u5f]
  unfold sameF
  obtain ⟨x1, h1⟩ := u1q (a.mu == b.mu)
  cases x1 <;> simp +contextual -dsimp (disch := omega) only [↓goDown, goUp, cr, simprocAttr, h1, hs, eqlB, Bool.true_and, Bool.false_and]
theorem ule {H : Heap} {a b : Int} : run (C u19 [.int .i64 a, .int .i64 b]) H = some (.ok (.bool (a == b)) H) := by
  rw [u5d]
  simp +contextual -dsimp (disch := omega) only [↓goDown, goUp, cr, simprocAttr, eqlI]
theorem pSub {H : Heap} {a b : SG} (ha : a.plain.fit) : run (C u23 [.agg (cs_SG a), .agg (cs_SG b)]) H = some (.ok (.bool (sameS a.plain b.plain)) H) := by
  obtain ⟨f1, ⟨y1, sup⟩, ⟨k1, ⟨y2, ps⟩, ⟨y3, rs⟩, ⟨y4, fs⟩⟩⟩ := a
  obtain ⟨f2, ⟨x1, sup'⟩, ⟨k2, ⟨x2, ps'⟩, ⟨x3, rs'⟩, ⟨x4, fs'⟩⟩⟩ := b
  obtain ⟨l1, l2, l3, l4⟩ := ha
  simp only [SG.plain, CG.plain] at l1 l2 l3 l4
  have i1 := fun K => uho (H := K) (f := .fn u19 [] []) (z1 := y1) (z2 := x1) (s := fun x y : Int => x == y) (l := sup) (m := sup') l1 rfl (fun K a b _ _ => by rw [u3g]; exact ule)
  have i2 := fun K => uam (H := K) (f := .fn u1f [] []) (z1 := y2) (z2 := x2) (s := sameV) (l := ps) (m := ps') l2 rfl (fun K a b _ _ => by rw [u3g]; exact pSame)
  have i3 := fun K => uam (H := K) (f := .fn u1f [] []) (z1 := y3) (z2 := x3) (s := sameV) (l := rs) (m := rs') l3 rfl (fun K a b _ _ => by rw [u3g]; exact pSame)
  have i4 := fun K => ui8 (H := K) (f := .fn u18 [] []) (z1 := y4) (z2 := x4) (s := sameF) (l := fs) (m := fs') l4 rfl (fun K a b _ _ => by rw [u3g]; exact pField)
  rw [u6g]
  unfold cs_SG sameS
  simp only [SG.plain, CG.plain]
  obtain ⟨c1, h1⟩ := u1q (f1 == f2)
  obtain ⟨c2, h2⟩ := u1q (sameL (fun x y : Int => x == y) sup sup')
  obtain ⟨c3, h3⟩ := u1q (k1 == k2)
  obtain ⟨c4, h4⟩ := u1q (sameL sameV ps ps')
  obtain ⟨c5, h5⟩ := u1q (sameL sameV rs rs')
  rw [h2] at i1
  rw [h4] at i2
  rw [h5] at i3
  rw [h1, h2, h3, h4, h5]
  cases c1 with
  | false => simp +contextual -dsimp (disch := omega) only [↓goDown, goUp, cr, simprocAttr, u4d, u2c, u4q, u4p, u4e, u33, u4n, u2b, u29, u28, u2d, u2a, u4b, u4s, u34, u4h, u2q, u4r, u3c, u5m, len_ne, List.cons_append, List.nil_append, List.all_cons, List.all_nil, and_self, and_true, true_and, u1z, Nat.lt_add_right_iff_pos, decide_true, h1, h3, i1, i2, i3, i4, eqlB, eqlI, u06, u0m, u09, low_Z, u08, u0n, Bool.true_and, Bool.false_and]
  | true =>
    cases c2 with
    | false => simp +contextual -dsimp (disch := omega) only [↓goDown, goUp, cr, simprocAttr, u4d, u2c, u4q, u4p, u4e, u33, u4n, u2b, u29, u28, u2d, u2a, u4b, u4s, u34, u4h, u2q, u4r, u3c, u5m, len_ne, List.cons_append, List.nil_append, List.all_cons, List.all_nil, and_self, and_true, true_and, u1z, Nat.lt_add_right_iff_pos, decide_true, h1, h3, i1, i2, i3, i4, eqlB, eqlI, u06, u0m, u09, low_Z, u08, u0n, Bool.true_and, Bool.false_and]
    | true =>
      cases c3 with
      | false => simp +contextual -dsimp (disch := omega) only [↓goDown, goUp, cr, simprocAttr, u4d, u2c, u4q, u4p, u4e, u33, u4n, u2b, u29, u28, u2d, u2a, u4b, u4s, u34, u4h, u2q, u4r, u3c, u5m, len_ne, List.cons_append, List.nil_append, List.all_cons, List.all_nil, and_self, and_true, true_and, u1z, Nat.lt_add_right_iff_pos, decide_true, h1, h3, i1, i2, i3, i4, eqlB, eqlI, u06, u0m, u09, low_Z, u08, u0n, Bool.true_and, Bool.false_and]
      | true =>
        cases c4 with
        | false => simp +contextual -dsimp (disch := omega) only [↓goDown, goUp, cr, simprocAttr, u4d, u2c, u4q, u4p, u4e, u33, u4n, u2b, u29, u28, u2d, u2a, u4b, u4s, u34, u4h, u2q, u4r, u3c, u5m, len_ne, List.cons_append, List.nil_append, List.all_cons, List.all_nil, and_self, and_true, true_and, u1z, Nat.lt_add_right_iff_pos, decide_true, h1, h3, i1, i2, i3, i4, eqlB, eqlI, u06, u0m, u09, low_Z, u08, u0n, Bool.true_and, Bool.false_and]
        | true =>
          cases c5 with
          | false => simp +contextual -dsimp (disch := omega) only [↓goDown, goUp, cr, simprocAttr, u4d, u2c, u4q, u4p, u4e, u33, u4n, u2b, u29, u28, u2d, u2a, u4b, u4s, u34, u4h, u2q, u4r, u3c, u5m, len_ne, List.cons_append, List.nil_append, List.all_cons, List.all_nil, and_self, and_true, true_and, u1z, Nat.lt_add_right_iff_pos, decide_true, h1, h3, i1, i2, i3, i4, eqlB, eqlI, u06, u0m, u09, low_Z, u08, u0n, Bool.true_and, Bool.false_and]
          | true =>
            simp +contextual -dsimp (disch := omega) only [↓goDown, goUp, cr, simprocAttr, u4d, u2c, u4q, u4p, u4e, u33, u4n, u2b, u29, u28, u2d, u2a, u4b, u4s, u34, u4h, u2q, u4r, u3c, u5m, len_ne, List.cons_append, List.nil_append, List.all_cons, List.all_nil, and_self, and_true, true_and, u1z, Nat.lt_add_right_iff_pos, decide_true, h1, h3, i1, i2, i3, i4, eqlB, eqlI, u06, u0m, u09, low_Z, u08, u0n, Bool.true_and, Bool.false_and]
theorem pRec {H : Heap} {a b : RG} (ha : a.plain.fit) : run (C u22 [.agg (cs_RG a), .agg (cs_RG b)]) H = some (.ok (.bool (sameR a.plain b.plain)) H) := by
  obtain ⟨⟨y, l⟩, e⟩ := a
  obtain ⟨⟨x, m⟩, d⟩ := b
  have hl : l.length < 2 ^ 62 := by have := ha.1; simpa [RG.plain] using this
  have hf : ∀ t ∈ l, t.plain.fit := fun t ht => ha.2 _ (List.mem_map_of_mem ht)
  have i1 := fun K => uim (H := K) (f := .fn u23 [] []) (z1 := y) (z2 := x) (s := fun a b => sameS a.plain b.plain) (l := l) (m := m) hl rfl (fun K a b h _ => by rw [u3g]; exact pSub (hf a h))
  rw [u6e]
  unfold cs_RG sameR
  simp only [RG.plain]
  rw [← ub4]
  obtain ⟨c1, h1⟩ := u1q (e == d)
  rw [h1]
  cases c1 <;> simp +contextual -dsimp (disch := omega) only [↓goDown, goUp, cr, simprocAttr, h1, i1, eqlB, u06, u0m, u09, low_Z, u08, u0n, Bool.true_and, Bool.false_and]
theorem u9u {H : Heap} {v4 : PV} {z1 z2 : Bool} {l m : List VT} (hl : l.length < 2 ^ 62) (hm : l.length = m.length) : ∀ (k i : Nat), i + k = l.length →
    run (u0l (LZ z1 3 (l.map encV)) (LZ z2 3 (m.map encV)) v4 (.int .i64 i)) H = some (.ok (.bool (sameZ sameV (l.drop i) (m.drop i))) H)
  | 0, i, h => by
    rw [u1j, u2i (by omega)]
    have c1 : ((i : Int) < l.length) = False := eq_false (by omega)
    simp +contextual -dsimp (disch := omega) only [↓goDown, goUp, cr, simprocAttr, u06, ln_Z, List.length_map, c1]
  | k + 1, i, h => by
    have ih := u9u (H := H) (v4 := v4) (z1 := z1) (z2 := z2) hl hm k (i + 1) (by omega)
    have hi : i < l.length := by omega
    have hj : i < m.length := by omega
    rw [u1j, u20 hi hj]
    have c1 : ((i : Int) < l.length) = True := eq_true (by omega)
    have hga : (l.map encV)[i]? = some (encV l[i]) := by simp [hi]
    have hgb : (m.map encV)[i]? = some (encV m[i]) := by simp [hj]
    have hia : ∀ K, run (iaS 3 (LZ z1 3 (l.map encV)) (.int .i64 i)) K = some (.ok (.elem [.int .i64 l[i].num, .bool l[i].nul, .int .i64 l[i].heap]) K) := fun K => ia_Z hga
    have hib : ∀ K, run (iaS 3 (LZ z2 3 (m.map encV)) (.int .i64 i)) K = some (.ok (.elem [.int .i64 m[i].num, .bool m[i].nul, .int .i64 m[i].heap]) K) := fun K => ia_Z hgb
    have hs := fun K => rSameV (H := K) (a := l[i]) (b := m[i])
    cases hc : sameV l[i] m[i] with
    | true =>
      rw [hc] at hs
      simp +contextual -dsimp (disch := omega) only [↓goDown, goUp, cr, simprocAttr, c1, u06, ln_Z, List.length_map, hia, hib, hs, un_not, ns]
      exact ih
    | false =>
      rw [hc] at hs
      simp +contextual -dsimp (disch := omega) only [↓goDown, goUp, cr, simprocAttr, c1, u06, ln_Z, List.length_map, hia, hib, hs, un_not, ns]
      all_goals rfl
theorem uew {H : Heap} {z1 z2 : Bool} {l m : List VT} (hl : l.length < 2 ^ 62) : run (C u0r [LZ z1 3 (l.map encV), LZ z2 3 (m.map encV)]) H = some (.ok (.bool (sameL sameV l m)) H) := by
  rw [u3a]
  unfold sameL
  by_cases h : l.length = m.length
  · have hlp := fun v4 => u9u (H := H) (v4 := v4) (z1 := z1) (z2 := z2) hl h l.length 0 (by omega)
    simp only [List.drop_zero, show ((0 : Nat) : Int) = 0 from rfl] at hlp
    have e1 : ((l.length : Int) == (m.length : Int)) = true := by rw [h]; exact beq_self_eq_true _
    have e2 : ((l.length : Int) != (m.length : Int)) = false := by rw [bne, e1]; rfl
    simp +contextual -dsimp (disch := omega) only [↓goDown, goUp, cr, simprocAttr, u06, ln_Z, List.length_map, e1, e2, hlp, Bool.true_and]
  · have e1 : ((l.length : Int) == (m.length : Int)) = false := beq_false_of_ne (by omega)
    have e2 : ((l.length : Int) != (m.length : Int)) = true := by rw [bne, e1]; rfl
    simp +contextual -dsimp (disch := omega) only [↓goDown, goUp, cr, simprocAttr, u06, ln_Z, List.length_map, e1, e2, Bool.false_and]
theorem u6a {H : Heap} {v4 : PV} {z1 z2 : Bool} {l m : List FT} (hl : l.length < 2 ^ 62) (hm : l.length = m.length) : ∀ (k i : Nat), i + k = l.length →
    run (u0f (LZ z1 4 (l.map encF)) (LZ z2 4 (m.map encF)) v4 (.int .i64 i)) H = some (.ok (.bool (sameZ sameF (l.drop i) (m.drop i))) H)
  | 0, i, h => by
    rw [u1e, u2i (by omega)]
    have c1 : ((i : Int) < l.length) = False := eq_false (by omega)
    simp +contextual -dsimp (disch := omega) only [↓goDown, goUp, cr, simprocAttr, u06, ln_Z, List.length_map, c1]
  | k + 1, i, h => by
    have ih := u6a (H := H) (v4 := v4) (z1 := z1) (z2 := z2) hl hm k (i + 1) (by omega)
    have hi : i < l.length := by omega
    have hj : i < m.length := by omega
    rw [u1e, u20 hi hj]
    have c1 : ((i : Int) < l.length) = True := eq_true (by omega)
    have hga : (l.map encF)[i]? = some (encF l[i]) := by simp [hi]
    have hgb : (m.map encF)[i]? = some (encF m[i]) := by simp [hj]
    have hia : ∀ K, run (iaS 4 (LZ z1 4 (l.map encF)) (.int .i64 i)) K = some (.ok (.elem [.int .i64 l[i].ty.num, .bool l[i].ty.nul, .int .i64 l[i].ty.heap, .bool l[i].mu]) K) := fun K => ia_Z hga
    have hib : ∀ K, run (iaS 4 (LZ z2 4 (m.map encF)) (.int .i64 i)) K = some (.ok (.elem [.int .i64 m[i].ty.num, .bool m[i].ty.nul, .int .i64 m[i].ty.heap, .bool m[i].mu]) K) := fun K => ia_Z hgb
    have hs := fun K => rSameV (H := K) (a := l[i].ty) (b := m[i].ty)
    have hsf : sameF l[i] m[i] = (l[i].mu == m[i].mu && sameV l[i].ty m[i].ty) := rfl
    rw [hsf]
    obtain ⟨x1, h1⟩ := u1q (l[i].mu == m[i].mu)
    have h2 : (l[i].mu != m[i].mu) = !x1 := by rw [bne, h1]
    rw [h1]
    cases x1 with
    | false =>
      simp +contextual -dsimp (disch := omega) only [↓goDown, goUp, cr, simprocAttr, c1, u06, ln_Z, List.length_map, hia, hib, hs, un_not, ns, neqB, h1, h2, Bool.not_false, Bool.false_and]
      all_goals rfl
    | true =>
      cases hc : sameV l[i].ty m[i].ty with
      | true =>
        rw [hc] at hs
        simp +contextual -dsimp (disch := omega) only [↓goDown, goUp, cr, simprocAttr, c1, u06, ln_Z, List.length_map, hia, hib, hs, un_not, ns, neqB, h1, h2, Bool.not_true]
        exact ih
      | false =>
        rw [hc] at hs
        simp +contextual -dsimp (disch := omega) only [↓goDown, goUp, cr, simprocAttr, c1, u06, ln_Z, List.length_map, hia, hib, hs, un_not, ns, neqB, h1, h2, Bool.not_true]
        all_goals rfl
theorem ugr {H : Heap} {z1 z2 : Bool} {l m : List FT} (hl : l.length < 2 ^ 62) : run (C u0y [LZ z1 4 (l.map encF), LZ z2 4 (m.map encF)]) H = some (.ok (.bool (sameL sameF l m)) H) := by
  rw [u2u]
  unfold sameL
  by_cases h : l.length = m.length
  · have hlp := fun v4 => u6a (H := H) (v4 := v4) (z1 := z1) (z2 := z2) hl h l.length 0 (by omega)
    simp only [List.drop_zero, show ((0 : Nat) : Int) = 0 from rfl] at hlp
    have e1 : ((l.length : Int) == (m.length : Int)) = true := by rw [h]; exact beq_self_eq_true _
    have e2 : ((l.length : Int) != (m.length : Int)) = false := by rw [bne, e1]; rfl
    simp +contextual -dsimp (disch := omega) only [↓goDown, goUp, cr, simprocAttr, u06, ln_Z, List.length_map, e1, e2, hlp, Bool.true_and]
  · have e1 : ((l.length : Int) == (m.length : Int)) = false := beq_false_of_ne (by omega)
    have e2 : ((l.length : Int) != (m.length : Int)) = true := by rw [bne, e1]; rfl
    simp +contextual -dsimp (disch := omega) only [↓goDown, goUp, cr, simprocAttr, u06, ln_Z, List.length_map, e1, e2, Bool.false_and]
end Go.Proofs.YtiiepllnnjjmaaaDoor.Pi.Q
