/- What the law rests on, part 3 of 4: a reading of the program's code over told data, and what it comes to. -/
import Derived.Test.YtofbbijagbpicaaWr1
namespace Go.Proofs.Ytofbbijagbpicaa.Pi
set_option linter.unusedVariables false
set_option linter.unusedSimpArgs false
variable {P : Program} {X : ExtT} {H : Heap}
def XSound (P : Program) (X : ExtT) : Prop :=
  ∀ f m, X f = some m → ∀ args H out, m args H = some out → callable P f = true ∧ ∀ g w cargs, Inv g H w → ArgsOk g args cargs → Calls P f cargs w (CallPost g w out)
theorem sem_sound (hX : XSound P X) (n : Nat) : CSound P (sem P X n).C ∧ CDSound P (sem P X n).CD := by
  induction n using Nat.strongRecOn with
  | _ n ih =>
    cases n with
    | zero => exact ⟨fun f args H out h => (fail_ne (H := H) h).elim, fun rv f args H out h => (fail_ne (H := H) h).elim⟩
    | succ n =>
      have hn := ih n (Nat.lt_succ_self n)
      refine ⟨fun f args H out h => ?_, fun rv f args H out h => fnDenD_sound hn.1 h⟩
      have h : (match X f with | some m => m args | none => fnDen P (sem P X n).C (sem P X n).CD (sem P X n).L f args) H = some out := h
      cases hf : X f with
      | some m => rw [hf] at h; exact hX f m hf args H out h
      | none =>
        rw [hf] at h
        exact fnDen_sound hn.1 hn.2 (fun fn => loop_sound n (fun m hm => (ih m (by omega)).1) _ _ _ (fun m hm r f a => sem_CD_le m r f a (by omega)) n (Nat.le_refl n)) h
theorem callW_sound (hX : XSound P X) : CSound P (callW P X) := by
  intro f args H out h
  obtain ⟨n, hn⟩ := ((cv_call P X f args).lim H out).mp h
  exact (sem_sound hX n).1 f args H out hn
theorem noX : XSound P (fun _ => none) := fun f m h => by cases h
end Go.Proofs.Ytofbbijagbpicaa.Pi
namespace Go.Proofs.Ytofbbijagbpicaa.Pi
set_option linter.unusedVariables false
noncomputable def kAt (c : Ctx) (L : LoopT) : List Nat → List Tmp → Code → K → List Tmp × Code × K
  | [], af, co, k => (af, co, k)
  | 0 :: p, af, .seq a b, k => kAt c L p ((rw b).1 ++ af) a fun
    | .normal, env' => bif c.rc.isNone && joinB a then L af b (keep ((rw b).1 ++ af) env') k else den c L af b env' k
    | e, env' => k e env'
  | _ :: p, af, .seq a b, k => kAt c L p af b k
  | 0 :: p, af, .cond _ a b, k => kAt c L p af a k
  | _ :: p, af, .cond _ a b, k => kAt c L p af b k
  | _ :: p, af, .block id b, k => kAt c L p af b fun
    | .exit i, env' => bif i == id then k .normal env' else k (.exit i) env'
    | e, env' => k e env'
  | _ :: p, af, .loop b, k => kAt c L p (alive af b) b fun
    | .normal, env' => L af (.loop b) (keep (alive af b) env') k
    | e, env' => k e env'
  | _, af, co, k => (af, co, k)
section
variable (P : Program) (X : ExtT)
noncomputable def kOf (f : FuncId) (p : List Nat) : List Tmp × Code × K :=
  match P.funcs[f]? with
  | some fn => match fn.body with
    | some b => kAt (ctxW P X none (protOf fn) (resM P fn)) (loopW P X none (protOf fn) (resM P fn)) p (resTmps fn) b fun
      | .exit _, _ => M.fail
      | _, env => resM P fn env
    | none => ([], .skip, fun _ _ => M.fail)
  | none => ([], .skip, fun _ _ => M.fail)
noncomputable def ctxOf (f : FuncId) : Ctx :=
  match P.funcs[f]? with
  | some fn => ctxW P X none (protOf fn) (resM P fn)
  | none => ctxW P X none [] (fun _ => M.fail)
noncomputable def atP (f : FuncId) (p : List Nat) (env : Env) : M PV :=
  loopW P X none (ctxOf P X f).prot (ctxOf P X f).res (kOf P X f p).1 (kOf P X f p).2.1 env (kOf P X f p).2.2
noncomputable def stepP (f : FuncId) (p : List Nat) (env : Env) : M PV :=
  go1 (ctxW P X none (ctxOf P X f).prot (ctxOf P X f).res) (loopW P X none (ctxOf P X f).prot (ctxOf P X f).res) (kOf P X f p).1 (kOf P X f p).2.1 env (kOf P X f p).2.2
theorem atP_step (f : FuncId) (p : List Nat) (env : Env) : atP P X f p env = stepP P X f p env := loopW_eq P X none _ _ _ _ _ _
def mkEnv : Nat → Nat → List (Nat × PV) → Env
  | 0, _, _ => []
  | n + 1, i, (j, v) :: r => bif i == j then v :: mkEnv n (i + 1) r else .undef :: mkEnv n (i + 1) ((j, v) :: r)
  | n + 1, i, [] => .undef :: mkEnv n (i + 1) []
end
end Go.Proofs.Ytofbbijagbpicaa.Pi
namespace Go.Proofs.Ytofbbijagbpicaa.Pi
set_option linter.unusedVariables false
set_option linter.unusedSimpArgs false
theorem nrfl {γ : Sort _} {a b : γ} (h : a = b) : a = b := h
variable {α β : Type} {H : Heap} {k : IntKind} {a b n m : Int} {x y : PV} {ek : EqK}
@[simp] theorem strip_int : strip (.int k n) = .int k n := nrfl rfl
@[simp] theorem strip_bool {t : Bool} : strip (.bool t) = .bool t := nrfl rfl
@[simp] theorem strip_str {s : ByteArray} : strip (.str s) = .str s := nrfl rfl
@[simp] theorem strip_slice {o z : Bool} {sz : Nat} {xs : List PV} : strip (.slice o z sz xs) = .slice false z sz xs := nrfl rfl
@[simp] theorem strip_ptr {i o : Nat} : strip (.ptr i o) = .ptr i o := nrfl rfl
@[simp] theorem strip_agg {cs : List PV} : strip (.agg cs) = .agg cs := nrfl rfl
@[simp] theorem strip_elem {cs : List PV} : strip (.elem cs) = .elem cs := nrfl rfl
@[simp] theorem strip_nil : strip .nil = .nil := nrfl rfl
@[simp] theorem strip_niliface : strip .niliface = .niliface := nrfl rfl
@[simp] theorem strip_iface {t : TypeId} {v : PV} : strip (.iface t v) = .iface t v := nrfl rfl
@[simp] theorem strip_fn {f : FuncId} {u v : List PV} : strip (.fn f u v) = .fn f u v := nrfl rfl
@[simp] theorem strip_undef : strip .undef = .undef := nrfl rfl
@[simp] theorem strip_tup {vs : List PV} : strip (.tup vs) = .tup (vs.map stripC) := nrfl rfl
@[simp] theorem stripC_int : stripC (.int k n) = .int k n := nrfl rfl
@[simp] theorem stripC_bool {t : Bool} : stripC (.bool t) = .bool t := nrfl rfl
@[simp] theorem stripC_str {s : ByteArray} : stripC (.str s) = .str s := nrfl rfl
@[simp] theorem stripC_slice {o z : Bool} {sz : Nat} {xs : List PV} : stripC (.slice o z sz xs) = .slice false z sz xs := nrfl rfl
@[simp] theorem stripC_ptr {i o : Nat} : stripC (.ptr i o) = .ptr i o := nrfl rfl
@[simp] theorem stripC_agg {cs : List PV} : stripC (.agg cs) = .agg cs := nrfl rfl
@[simp] theorem stripC_nil : stripC .nil = .nil := nrfl rfl
@[simp] theorem stripC_niliface : stripC .niliface = .niliface := nrfl rfl
@[simp] theorem stripC_iface {t : TypeId} {v : PV} : stripC (.iface t v) = .iface t v := nrfl rfl
@[simp] theorem stripC_fn {f : FuncId} {u v : List PV} : stripC (.fn f u v) = .fn f u v := nrfl rfl
@[simp] theorem bi_add : bi .add ek (.int k a) (.int k b) = M.pure (.int k (k.wrap (a + b))) := nrfl (by cases k <;> rfl)
@[simp] theorem bi_sub : bi .sub ek (.int k a) (.int k b) = M.pure (.int k (k.wrap (a - b))) := nrfl (by cases k <;> rfl)
@[simp] theorem bi_mul : bi .mul ek (.int k a) (.int k b) = M.pure (.int k (k.wrap (a * b))) := nrfl (by cases k <;> rfl)
@[simp] theorem bi_eql : bi .eql ek (.int k a) (.int k b) = M.pure (.bool (a == b)) := nrfl (by cases k <;> rfl)
@[simp] theorem bi_neq : bi .neq ek (.int k a) (.int k b) = M.pure (.bool (a != b)) := nrfl (by cases k <;> rfl)
@[simp] theorem bi_lss : bi .lss ek (.int k a) (.int k b) = M.pure (.bool (decide (a < b))) := nrfl (by cases k <;> rfl)
@[simp] theorem bi_leq : bi .leq ek (.int k a) (.int k b) = M.pure (.bool (decide (a ≤ b))) := nrfl (by cases k <;> rfl)
@[simp] theorem bi_gtr : bi .gtr ek (.int k a) (.int k b) = M.pure (.bool (decide (a > b))) := nrfl (by cases k <;> rfl)
@[simp] theorem bi_geq : bi .geq ek (.int k a) (.int k b) = M.pure (.bool (decide (a ≥ b))) := nrfl (by cases k <;> rfl)
@[simp] theorem bi_seql {s t : ByteArray} : bi .eql ek (.str s) (.str t) = M.pure (.bool (s.toList == t.toList)) := nrfl rfl
@[simp] theorem bi_sneq {s t : ByteArray} : bi .neq ek (.str s) (.str t) = M.pure (.bool (!(s.toList == t.toList))) := nrfl rfl
@[simp] theorem bi_beql {s t : Bool} : bi .eql .bool (.bool s) (.bool t) = M.pure (.bool (s == t)) := nrfl rfl
@[simp] theorem bi_bneq {s t : Bool} : bi .neq .bool (.bool s) (.bool t) = M.pure (.bool (!(s == t))) := nrfl rfl
@[simp] theorem un_not {t : Bool} : un .not (.bool t) = M.pure (.bool (!t)) := nrfl rfl
@[simp] theorem lnL_slice {o z : Bool} {sz : Nat} {xs : List PV} : lnL (.slice o z sz xs) = M.pure (.int .i64 xs.length) := nrfl rfl
@[simp] theorem lnS_str {s : ByteArray} : lnS (.str s) = M.pure (.int .i64 s.size) := nrfl rfl
@[simp] theorem mx_int : mx (.int k a) (.int k b) = M.pure (.int k (if b > a then b else a)) := nrfl (by cases k <;> rfl)
@[simp] theorem mn_int : mn (.int k a) (.int k b) = M.pure (.int k (if b < a then b else a)) := nrfl (by cases k <;> rfl)
@[simp] theorem cv_int {o : Bool} {j : IntKind} : cv (.int k) o (.int j n) = M.pure (.int k (k.wrap n)) := nrfl rfl
@[simp] theorem ex_tup0 {v : PV} {r : List PV} : ex 0 (.tup (v :: r)) = M.pure v := nrfl rfl
@[simp] theorem ex_tup1 {u v : PV} {r : List PV} : ex 1 (.tup (u :: v :: r)) = M.pure v := nrfl rfl
@[simp] theorem ex_tup2 {t u v : PV} {r : List PV} : ex 2 (.tup (t :: u :: v :: r)) = M.pure v := nrfl rfl
end Go.Proofs.Ytofbbijagbpicaa.Pi
namespace Go.Proofs.Ytofbbijagbpicaa.Pi
set_option linter.unusedVariables false
set_option linter.unusedSimpArgs false
variable {P : Program} {X : ExtT}
def gOf (im : Nat → Nat → Option Value) : G := ⟨[], im, fun _ => none⟩
theorem inv_gOf {im : Nat → Nat → Option Value} {w : World} (him : ∀ b o v, im b o = some v → w.cell? ⟨b, o, none⟩ = some v) : Inv (gOf im) [] w :=
  ⟨rfl, fun i j b h => by simp [gOf] at h, him, fun b L s h => by simp [gOf] at h, fun id b y h => by simp [gOf] at h⟩
theorem walk_law (hX : XSound P X) {f : FuncId} {args : List PV} {H' : Heap} (h : callW P X f args [] = some (.ok (.bool true) H')) {im : Nat → Nat → Option Value} {w : World} {cargs : Array Value}
    (him : ∀ b o v, im b o = some v → w.cell? ⟨b, o, none⟩ = some v) (ha : ArgsOk (gOf im) args cargs) : Calls P f cargs w fun e w' => e = .returned (.bool true) ∧ RowKit.Below w.heap.size w w' := by
  obtain ⟨_, hs⟩ := callW_sound hX f args [] _ h
  refine (hs (gOf im) w cargs (inv_gOf him) ha).mono ?_
  rintro e w' ⟨g', hgl, hgr, cv, rfl, hi, hr⟩
  have hv : cv = .bool true := by
    cases hr with
    | one hr => cases hr with
      | pure hr => cases hr with
        | flat hr => cases hr; rfl
  subst hv
  exact ⟨rfl, hgl.os, hgl.tape, hgl.output, hgl.size, fun k hk => (hgl.old k hk rfl (by simp [gOf])).2.2⟩
end Go.Proofs.Ytofbbijagbpicaa.Pi
namespace Go.Proofs.Ytofbbijagbpicaa.Pi
set_option linter.unusedVariables false
set_option linter.unusedSimpArgs false
variable {α β : Type} {H : Heap} {k j : IntKind} {a b n m : Int} {x y : PV} {ek : EqK}
def resT (v : PV) (m : M PV) : M PV := bif isTup v then M.fail else m
def hget (H : Heap) (id : Nat) : Option Box := H[id]?
def hset (H : Heap) (id : Nat) (b : Box) : Heap := H.set id b
def hadd (H : Heap) (L : List Box) : Heap := H ++ L
def hcut (H : Heap) (n : Nat) : Heap := H.take n
abbrev hlen (H : Heap) : Nat := List.length H
def run (m : M α) (H : Heap) : Option (Out α) := m H
def bindR (r : Option (Out α)) (f : α → M β) : Option (Out β) :=
  match r with
  | none => none
  | some (.ok v H) => run (f v) H
  | some (.pan v H) => some (.pan v H)
def truncR (H : Heap) (r : Option (Out PV)) : Option (Out PV) :=
  match r with
  | none => none
  | some (.ok v H') => some (.ok v (bif v.low H.length then hcut H' H.length else H'))
  | some (.pan v H') => bif v.low H.length then some (.pan v (hcut H' H.length)) else none
noncomputable def nbR (H : Heap) (r : Option (Out α)) (f : α → M β) : Option (Out β) := nb (fun _ => r) f H
@[congr] theorem bindR_congr {r r' : Option (Out α)} {f : α → M β} (h : r = r') : bindR r f = bindR r' f := by rw [h]
@[congr] theorem nbR_congr {r r' : Option (Out α)} {f : α → M β} (h : r = r') : nbR H r f = nbR H r' f := by rw [h]
@[congr] theorem condM_congr {c c' : PV} {x y : M α} (h : c = c') : condM c x y = condM c' x y := by rw [h]
@[congr] theorem guardM_congr {c c' : Bool} {x : M α} (h : c = c') : guardM c x = guardM c' x := by rw [h]
@[congr] theorem resT_congr {c c' : PV} {x : M PV} (h : c = c') : resT c x = resT c' x := by rw [h]
theorem run_bind {m : M α} {f : α → M β} : run (M.bind m f) H = bindR (run m H) f := nrfl rfl
theorem bindR_ok {f : α → M β} {v : α} {H : Heap} : bindR (some (.ok v H)) f = run (f v) H := nrfl rfl
theorem bindR_none {f : α → M β} : bindR none f = none := nrfl rfl
theorem bindR_pan {f : α → M β} {v : PV} {H : Heap} : bindR (some (.pan v H)) f = some (.pan v H) := nrfl rfl
theorem bindR_ite {c : Prop} [Decidable c] {r r' : Option (Out α)} {f : α → M β} : bindR (if c then r else r') f = if c then bindR r f else bindR r' f := by split <;> rfl
theorem run_nb {m : M α} {f : α → M β} : run (nb m f) H = nbR H (run m H) f := nrfl rfl
theorem nbR_ok {f : α → M β} {v : α} : nbR H (some (.ok v H)) f = run (f v) H := by simp [nbR, nb, run]
theorem nbR_ite {c : Prop} [Decidable c] {r r' : Option (Out α)} {f : α → M β} : nbR H (if c then r else r') f = if c then nbR H r f else nbR H r' f := by split <;> rfl
theorem run_trunc {m : M PV} : run (trunc m) H = truncR H (run m H) := nrfl rfl
theorem truncR_ite {c : Prop} [Decidable c] {r r' : Option (Out PV)} : truncR H (if c then r else r') = if c then truncR H r else truncR H r' := by split <;> rfl
theorem truncR_none : truncR H none = none := nrfl rfl
theorem truncR_ok {v : PV} {H' : Heap} : truncR H (some (.ok v H')) = some (.ok v (if v.low H.length = true then hcut H' H.length else H')) := by
  show some (Out.ok v (bif v.low H.length then hcut H' H.length else H')) = _
  cases v.low H.length <;> rfl
theorem truncR_pan {v : PV} {H' : Heap} : truncR H (some (.pan v H')) = if v.low H.length = true then some (.pan v (hcut H' H.length)) else none := by
  show (bif v.low H.length then some (Out.pan v (hcut H' H.length)) else none) = _
  cases v.low H.length <;> rfl
theorem run_guard {c : Bool} {m : M α} : run (guardM c m) H = if c = true then run m H else none := by cases c <;> rfl
theorem run_resT {v : PV} {m : M PV} : run (resT v m) H = if isTup v = true then none else run m H := by unfold resT; cases isTup v <;> rfl
theorem run_cond {c : Bool} {x y : M α} : run (condM (.bool c) x y) H = if c = true then run x H else run y H := by cases c <;> rfl
theorem run_gdT {c : Bool} {m : M PV} : run (gd (.bool c) true m) H = if c = true then run m H else some (.ok (.tup []) H) := by cases c <;> rfl
theorem run_gdF {c : Bool} {m : M PV} : run (gd (.bool c) false m) H = if c = true then some (.ok (.tup []) H) else run m H := by cases c <;> rfl
theorem strip_skip : strip (.tup []) = .tup [] := nrfl rfl
theorem run_gdS {b : Bool} {m : M PV} : run (gd (.tup []) b m) H = some (.ok (.tup []) H) := nrfl rfl
theorem run_pick {c : Bool} : run (pick (.bool c) x y) H = if c = true then some (.ok (strip x) H) else some (.ok (strip y) H) := by cases c <;> rfl
theorem run_pure {v : α} : run (M.pure v) H = some (.ok v H) := nrfl rfl
theorem run_pan {v : PV} : run (M.pan v : M α) H = some (.pan v H) := nrfl rfl
theorem run_fail : run (M.fail : M α) H = none := nrfl rfl
theorem run_al {cs : List PV} : run (al cs) H = if cs.all isCell = true then some (.ok (.ptr H.length 0) (hadd H [.cells cs])) else none := by unfold run al; cases cs.all isCell <;> rfl
theorem run_bx {n : Nat} {v : PV} : run (bx n v) H = if (v.cells.map stripC).length = n ∧ lowL (H.length + 1) (v.cells.map stripC) = true ∧ v.cells.all isCell = true then some (.ok (.ptr H.length 0) (hadd H [.cells (v.cells.map stripC)])) else none := by
  unfold run bx
  cases h1 : ((v.cells.map stripC).length == n) <;> cases h2 : lowL (H.length + 1) (v.cells.map stripC) <;> cases h3 : v.cells.all isCell <;> simp_all [hadd]
theorem beq_eq_decide' (a b : Nat) : (a == b) = decide (a = b) := by rw [Bool.eq_iff_iff]; simp
def ldB (n : Option Nat) (mv : Bool) (id o : Nat) (H : Heap) : Option Box → Option (Out PV)
  | some (.cells cs) => match n with
      | none => match cs[o]? with
        | some v => bif mv then some (.ok v (hset H id (.cells (cs.set o (stripC v))))) else some (.ok (stripC v) H)
        | none => none
      | some n => bif decide (o + n ≤ cs.length) then some (.ok (.agg (((cs.drop o).take n).map stripC)) H) else none
  | _ => none
theorem run_ld {n : Option Nat} {mv : Bool} {id o : Nat} : run (ld n mv (.ptr id o)) H = ldB n mv id o H (hget H id) := by
  unfold run ld ldB
  rfl
def stB (n : Nat) (mv : Bool) (id o : Nat) (v : PV) (H : Heap) : Option Box → Option (Out PV)
  | some (.cells cs) => bif v.cells.length == n && (decide (o + n ≤ cs.length) && (lowL (id + 1) v.cells && v.cells.all isCell)) then
        some (.ok .undef (hset H id (.cells (fillAt o (bif mv then v.cells else v.cells.map stripC) cs))))
      else none
  | _ => none
theorem run_st {n : Nat} {mv : Bool} {id o : Nat} {v : PV} : run (st n mv (.ptr id o) v) H = stB n mv id o v H (hget H id) := by
  unfold run st stB
  rfl
theorem ldB_some {n : Nat} {mv : Bool} {id o : Nat} {cs : List PV} : ldB (some n) mv id o H (some (.cells cs)) = if o + n ≤ cs.length then some (.ok (.agg (((cs.drop o).take n).map stripC)) H) else none := by
  show (bif decide (o + n ≤ cs.length) then some (Out.ok (PV.agg (((cs.drop o).take n).map stripC)) H) else none) = _
  by_cases h : o + n ≤ cs.length <;> simp [h]
def nth : List α → Nat → Option α
  | [], _ => none
  | v :: _, 0 => some v
  | _ :: r, n + 1 => nth r n
theorem nth_zero {v : α} {r : List α} : nth (v :: r) 0 = some v := nrfl rfl
theorem nth_succ {v : α} {r : List α} {n : Nat} : nth (v :: r) (n + 1) = nth r n := nrfl rfl
theorem nth_is : ∀ (l : List α) (n : Nat), l[n]? = nth l n
  | [], _ => rfl
  | _ :: _, 0 => rfl
  | _ :: r, n + 1 => nth_is r n
def ldTR (H : Heap) (id : Nat) (cs : List PV) (o : Nat) : Option PV → Option (Out PV)
  | some v => some (.ok v (hset H id (.cells (cs.set o (stripC v)))))
  | none => none
def ldFR (H : Heap) : Option PV → Option (Out PV)
  | some v => some (.ok (stripC v) H)
  | none => none
theorem ldTR_some {id : Nat} {cs : List PV} {o : Nat} {v : PV} : ldTR H id cs o (some v) = some (.ok v (hset H id (.cells (cs.set o (stripC v))))) := nrfl rfl
theorem ldFR_some {v : PV} : ldFR H (some v) = some (.ok (stripC v) H) := nrfl rfl
theorem ldB_t {id o : Nat} {cs : List PV} : ldB none true id o H (some (.cells cs)) = ldTR H id cs o (nth cs o) := by
  rw [← nth_is]; rfl
theorem ldB_f {id o : Nat} {cs : List PV} : ldB none false id o H (some (.cells cs)) = ldFR H (nth cs o) := by
  rw [← nth_is]; rfl
theorem stB_is {n : Nat} {mv : Bool} {id o : Nat} {v : PV} {cs : List PV} :
    stB n mv id o v H (some (.cells cs)) = if v.cells.length = n ∧ o + n ≤ cs.length ∧ lowL (id + 1) v.cells = true ∧ v.cells.all isCell = true then some (.ok .undef (hset H id (.cells (fillAt o (if mv = true then v.cells else v.cells.map stripC) cs)))) else none := by
  show (bif v.cells.length == n && (decide (o + n ≤ cs.length) && (lowL (id + 1) v.cells && v.cells.all isCell)) then some (Out.ok PV.undef (hset H id (.cells (fillAt o (bif mv then v.cells else v.cells.map stripC) cs)))) else none) = _
  cases hb : v.cells.all isCell <;> cases hc : lowL (id + 1) v.cells <;> by_cases h1 : v.cells.length = n <;> by_cases h2 : o + n ≤ cs.length <;> cases mv <;> simp [h1, h2, beq_eq_decide' (v.cells.length) n]
theorem run_ldE0 {mv : Bool} {cs : List PV} {c : PV} : run (ld none mv (.elem (c :: cs))) H = some (.ok c H) := nrfl rfl
theorem run_ldEn {mv : Bool} {n : Nat} {cs : List PV} : run (ld (some n) mv (.elem cs)) H = if n ≤ cs.length then some (.ok (.agg (cs.take n)) H) else none := by
  show (bif decide (n ≤ cs.length) then M.pure (PV.agg (cs.take n)) else M.fail) H = _
  by_cases h : n ≤ cs.length <;> simp [h, M.pure, M.fail]
theorem get_loc {L : List Box} (k : Nat) : hget (hadd H L) (H.length + k) = nth L k := by unfold hget hadd; rw [List.getElem?_append_right (Nat.le_add_right _ _), Nat.add_sub_cancel_left, nth_is]
theorem get_loc0 {L : List Box} : hget (hadd H L) H.length = nth L 0 := get_loc 0
theorem get_old {L : List Box} {i : Nat} (h : i < H.length) : hget (hadd H L) i = hget H i := List.getElem?_append_left h
theorem set_loc {L : List Box} {x : Box} (k : Nat) : hset (hadd H L) (H.length + k) x = hadd H (L.set k x) := by unfold hset hadd; rw [List.set_append_right _ _ (Nat.le_add_right _ _), Nat.add_sub_cancel_left]
theorem set_loc0 {L : List Box} {x : Box} : hset (hadd H L) H.length x = hadd H (L.set 0 x) := set_loc 0
theorem set_old {L : List Box} {i : Nat} {x : Box} (h : i < H.length) : hset (hadd H L) i x = hadd (hset H i x) L := List.set_append_left _ _ h
theorem get_set {i : Nat} {x : Box} (h : i < H.length) : hget (hset H i x) i = some x := by unfold hget hset; rw [List.getElem?_set_self h]
theorem get_set_ne {i k : Nat} {x : Box} (h : i ≠ k) : hget (hset H i x) k = hget H k := List.getElem?_set_ne h
theorem set_set {i : Nat} {x y : Box} : hset (hset H i x) i y = hset H i y := List.set_set _
theorem add_add {L K : List Box} : hadd (hadd H L) K = hadd H (L ++ K) := List.append_assoc _ _ _
theorem cut_add {A L : List Box} {n : Nat} (h : n = A.length) : hcut (hadd A L) n = A := by subst h; simp [hcut, hadd]
theorem cut_all {A : List Box} {n : Nat} (h : n = A.length) : hcut A n = A := by subst h; simp [hcut]
theorem cut0 : hcut H H.length = H := cut_all rfl
theorem cut1 {i : Nat} {x : Box} : hcut (hset H i x) H.length = hset H i x := cut_all (by unfold hset; simp)
theorem cut2 {i j : Nat} {x y : Box} : hcut (hset (hset H i x) j y) H.length = hset (hset H i x) j y := cut_all (by unfold hset; simp)
theorem cutA0 {L : List Box} : hcut (hadd H L) H.length = H := cut_add rfl
theorem cutA1 {L : List Box} {i : Nat} {x : Box} : hcut (hadd (hset H i x) L) H.length = hset H i x := cut_add (by unfold hset; simp)
theorem cutA2 {L : List Box} {i j : Nat} {x y : Box} : hcut (hadd (hset (hset H i x) j y) L) H.length = hset (hset H i x) j y := cut_add (by unfold hset; simp)
theorem len_add {L : List Box} : List.length (hadd H L) = H.length + L.length := List.length_append
theorem len_set {i : Nat} {x : Box} : List.length (hset H i x) = H.length := List.length_set
theorem get_loc1 {L : List Box} {i : Nat} {y : Box} (k : Nat) : hget (hadd (hset H i y) L) (H.length + k) = nth L k := by
  have := get_loc (H := hset H i y) (L := L) k
  rwa [len_set] at this
theorem get_loc01 {L : List Box} {i : Nat} {y : Box} : hget (hadd (hset H i y) L) H.length = nth L 0 := get_loc1 0
theorem set_loc1 {L : List Box} {i : Nat} {x y : Box} (k : Nat) : hset (hadd (hset H i y) L) (H.length + k) x = hadd (hset H i y) (L.set k x) := by
  have := set_loc (H := hset H i y) (L := L) (x := x) k
  rwa [len_set] at this
theorem set_loc01 {L : List Box} {i : Nat} {x y : Box} : hset (hadd (hset H i y) L) H.length x = hadd (hset H i y) (L.set 0 x) := set_loc1 0
theorem get_old1 {L : List Box} {i j : Nat} {y : Box} (h : i < H.length) : hget (hadd (hset H j y) L) i = hget (hset H j y) i := get_old (by rw [len_set]; exact h)
theorem set_old1 {L : List Box} {i j : Nat} {x y : Box} (h : i < H.length) : hset (hadd (hset H j y) L) i x = hadd (hset (hset H j y) i x) L := set_old (by rw [len_set]; exact h)
theorem w_i64 (h : -9223372036854775808 ≤ n ∧ n ≤ 9223372036854775807) : IntKind.i64.wrap n = n := by rw [IntKind.wrap_i64]; omega
theorem w_u64 (h : 0 ≤ n ∧ n ≤ 18446744073709551615) : IntKind.u64.wrap n = n := by simp only [IntKind.wrap, IntKind.signed, IntKind.bits]; simp; omega
theorem w_u8 (h : 0 ≤ n ∧ n ≤ 255) : IntKind.u8.wrap n = n := by rw [IntKind.wrap_u8]; omega
theorem w_u32 (h : 0 ≤ n ∧ n ≤ 4294967295) : IntKind.u32.wrap n = n := by rw [IntKind.wrap_u32]; omega
theorem w_i32 (h : -2147483648 ≤ n ∧ n ≤ 2147483647) : IntKind.i32.wrap n = n := by rw [IntKind.wrap_i32]; omega
theorem run_shr (h : 0 ≤ b) : bi .shr ek (.int k a) (.int j b) = M.pure (.int k (a.fdiv (2 ^ shiftN k b))) := by
  have : ¬ b < 0 := by omega
  simp [bi, this]
theorem run_quo (h : b ≠ 0) : bi .quo ek (.int k a) (.int k b) = M.pure (.int k (k.wrap (a.tdiv b))) := by
  have h' : (b == 0) = false := by simpa using h
  cases k <;> simp [bi, intOp, h']
theorem run_rem (h : b ≠ 0) : bi .rem ek (.int k a) (.int k b) = M.pure (.int k (a.tmod b)) := by
  have h' : (b == 0) = false := by simpa using h
  cases k <;> simp [bi, intOp, h']
theorem run_and : bi .and ek (.int k a) (.int k b) = M.pure (.int k (k.wrap (BitVec.ofInt k.bits a &&& BitVec.ofInt k.bits b).toNat)) := by cases k <;> rfl
theorem run_or : bi .or ek (.int k a) (.int k b) = M.pure (.int k (k.wrap (BitVec.ofInt k.bits a ||| BitVec.ofInt k.bits b).toNat)) := by cases k <;> rfl
def iaR (H : Heap) : Option PV → Option (Out PV)
  | some x => some (.ok (.elem x.cells) H)
  | none => none
theorem iaR_some {x : PV} : iaR H (some x) = some (.ok (.elem x.cells) H) := nrfl rfl
theorem run_iaS {o z : Bool} {sz : Nat} {xs : List PV} (h0 : 0 ≤ n) : run (iaS sz (.slice o z sz xs) (.int k n)) H = iaR H xs[n.toNat]? := by
  unfold iaS iaR run
  have h' : decide (0 ≤ n) = true := by simpa using h0
  simp only [h', beq_self_eq_true, Bool.and_self, cond_true, rtPanic, M.fail, M.pure]
  split <;> rename_i h <;> simp only [h] <;> rfl
theorem run_fa {off id o : Nat} : fa off (.ptr id o) = M.pure (.ptr id (o + off)) := nrfl rfl
theorem run_faE {off : Nat} {cs : List PV} : fa off (.elem cs) = M.pure (.elem (cs.drop off)) := nrfl rfl
theorem callV_fn {P : Program} {C : CallT} {f : FuncId} {u v args : List PV} : callV P C (.fn f u v) args = C f (u ++ args ++ v) := nrfl rfl
theorem nc_ptr {P : Program} {i o : Nat} : nc P (.ptr i o) = M.pure (.ptr i o) := nrfl rfl
theorem nc_elem {P : Program} {cs : List PV} : nc P (.elem cs) = M.pure (.elem cs) := nrfl rfl
theorem nc_nil {P : Program} : nc P .nil = M.pan (nilDeref P) := nrfl rfl
theorem run_mi {t : TypeId} {v : PV} : run (mi t v) H = if isVal v = true then some (.ok (.iface t (stripC v)) H) else none := by
  unfold run mi
  cases isVal v <;> rfl
theorem run_pn {t : TypeId} {v : PV} : pn (.iface t v) = M.pan (.iface t v) := nrfl rfl
theorem run_cvI {o : Bool} : cv (.int k) o (.int j n) = M.pure (.int k (k.wrap n)) := nrfl rfl
theorem run_ex0 {v : PV} {r : List PV} : ex 0 (.tup (v :: r)) = M.pure v := nrfl rfl
theorem run_ex1 {u v : PV} {r : List PV} : ex 1 (.tup (u :: v :: r)) = M.pure v := nrfl rfl
theorem run_ex2 {u v x : PV} {r : List PV} : ex 2 (.tup (u :: v :: x :: r)) = M.pure x := nrfl rfl
theorem tupDrop0 {v : PV} {r : List PV} : tupDrop 0 (.tup (v :: r)) = .tup (stripC v :: r) := nrfl rfl
theorem tupDrop1 {u v : PV} {r : List PV} : tupDrop 1 (.tup (u :: v :: r)) = .tup (u :: stripC v :: r) := nrfl rfl
theorem tupDrop2 {u v x : PV} {r : List PV} : tupDrop 2 (.tup (u :: v :: x :: r)) = .tup (u :: v :: stripC x :: r) := nrfl rfl
section
variable {c d : Bool} {s : ByteArray} {i o : Nat} {cs ds : List PV} {N : Nat}
theorem isTup_int : isTup (.int k n) = false := nrfl rfl
theorem isCell_int : isCell (.int k n) = true := nrfl rfl
theorem isVal_int : isVal (.int k n) = true := nrfl rfl
theorem isPtr_int : isPtr (.int k n) = false := nrfl rfl
theorem cells_int : PV.cells (.int k n) = [(.int k n)] := nrfl rfl
theorem low_int : PV.low N (.int k n) = true := by simp only [PV.low]
theorem isTup_bool : isTup (.bool c) = false := nrfl rfl
theorem isCell_bool : isCell (.bool c) = true := nrfl rfl
theorem isVal_bool : isVal (.bool c) = true := nrfl rfl
theorem isPtr_bool : isPtr (.bool c) = false := nrfl rfl
theorem cells_bool : PV.cells (.bool c) = [(.bool c)] := nrfl rfl
theorem low_bool : PV.low N (.bool c) = true := by simp only [PV.low]
theorem isTup_str : isTup (.str s) = false := nrfl rfl
theorem isCell_str : isCell (.str s) = true := nrfl rfl
theorem isVal_str : isVal (.str s) = true := nrfl rfl
theorem isPtr_str : isPtr (.str s) = false := nrfl rfl
theorem cells_str : PV.cells (.str s) = [(.str s)] := nrfl rfl
theorem low_str : PV.low N (.str s) = true := by simp only [PV.low]
theorem isTup_nil : isTup .nil = false := nrfl rfl
theorem isCell_nil : isCell .nil = true := nrfl rfl
theorem isVal_nil : isVal .nil = true := nrfl rfl
theorem isPtr_nil : isPtr .nil = false := nrfl rfl
theorem cells_nil : PV.cells .nil = [.nil] := nrfl rfl
theorem low_nil : PV.low N .nil = true := by simp only [PV.low]
theorem isTup_ptr : isTup (.ptr i o) = false := nrfl rfl
theorem isCell_ptr : isCell (.ptr i o) = true := nrfl rfl
theorem isVal_ptr : isVal (.ptr i o) = true := nrfl rfl
theorem isPtr_ptr : isPtr (.ptr i o) = true := nrfl rfl
theorem cells_ptr : PV.cells (.ptr i o) = [(.ptr i o)] := nrfl rfl
theorem low_ptr : PV.low N (.ptr i o) = decide (i < N) := by simp only [PV.low]
theorem isTup_elem : isTup (.elem cs) = false := nrfl rfl
theorem isCell_elem : isCell (.elem cs) = true := nrfl rfl
theorem isVal_elem : isVal (.elem cs) = true := nrfl rfl
theorem isPtr_elem : isPtr (.elem cs) = false := nrfl rfl
theorem cells_elem : PV.cells (.elem cs) = [(.elem cs)] := nrfl rfl
theorem low_elem : PV.low N (.elem cs) = true := by simp only [PV.low]
theorem isTup_slice : isTup (.slice c d i cs) = false := nrfl rfl
theorem isCell_slice : isCell (.slice c d i cs) = true := nrfl rfl
theorem isVal_slice : isVal (.slice c d i cs) = true := nrfl rfl
theorem isPtr_slice : isPtr (.slice c d i cs) = false := nrfl rfl
theorem cells_slice : PV.cells (.slice c d i cs) = [(.slice c d i cs)] := nrfl rfl
theorem low_slice : PV.low N (.slice c d i cs) = true := by simp only [PV.low]
theorem isTup_fn : isTup (.fn i cs ds) = false := nrfl rfl
theorem isCell_fn : isCell (.fn i cs ds) = true := nrfl rfl
theorem isVal_fn : isVal (.fn i cs ds) = true := nrfl rfl
theorem isPtr_fn : isPtr (.fn i cs ds) = false := nrfl rfl
theorem cells_fn : PV.cells (.fn i cs ds) = [(.fn i cs ds)] := nrfl rfl
theorem low_fn : PV.low N (.fn i cs ds) = (lowL N cs && lowL N ds) := by simp only [PV.low]
theorem isTup_nilfn : isTup .nilfn = false := nrfl rfl
theorem isCell_nilfn : isCell .nilfn = true := nrfl rfl
theorem isVal_nilfn : isVal .nilfn = true := nrfl rfl
theorem isPtr_nilfn : isPtr .nilfn = false := nrfl rfl
theorem cells_nilfn : PV.cells .nilfn = [.nilfn] := nrfl rfl
theorem low_nilfn : PV.low N .nilfn = true := by simp only [PV.low]
theorem isTup_iface : isTup (.iface i x) = false := nrfl rfl
theorem isCell_iface : isCell (.iface i x) = true := nrfl rfl
theorem isVal_iface : isVal (.iface i x) = true := nrfl rfl
theorem isPtr_iface : isPtr (.iface i x) = false := nrfl rfl
theorem cells_iface : PV.cells (.iface i x) = [(.iface i x)] := nrfl rfl
theorem low_iface : PV.low N (.iface i x) = x.low N := by simp only [PV.low]
theorem isTup_niliface : isTup .niliface = false := nrfl rfl
theorem isCell_niliface : isCell .niliface = true := nrfl rfl
theorem isVal_niliface : isVal .niliface = true := nrfl rfl
theorem isPtr_niliface : isPtr .niliface = false := nrfl rfl
theorem cells_niliface : PV.cells .niliface = [.niliface] := nrfl rfl
theorem low_niliface : PV.low N .niliface = true := by simp only [PV.low]
theorem isTup_agg : isTup (.agg cs) = false := nrfl rfl
theorem isCell_agg : isCell (.agg cs) = false := nrfl rfl
theorem isVal_agg : isVal (.agg cs) = true := nrfl rfl
theorem isPtr_agg : isPtr (.agg cs) = false := nrfl rfl
theorem cells_agg : PV.cells (.agg cs) = cs := nrfl rfl
theorem low_agg : PV.low N (.agg cs) = lowL N cs := by simp only [PV.low]
theorem isTup_tup : isTup (.tup cs) = true := nrfl rfl
theorem isCell_tup : isCell (.tup cs) = false := nrfl rfl
theorem isVal_tup : isVal (.tup cs) = false := nrfl rfl
theorem isPtr_tup : isPtr (.tup cs) = false := nrfl rfl
theorem cells_tup : PV.cells (.tup cs) = [(.tup cs)] := nrfl rfl
theorem low_tup : PV.low N (.tup cs) = lowL N cs := by simp only [PV.low]
theorem isTup_undef : isTup .undef = false := nrfl rfl
theorem isCell_undef : isCell .undef = false := nrfl rfl
theorem isVal_undef : isVal .undef = false := nrfl rfl
theorem isPtr_undef : isPtr .undef = false := nrfl rfl
theorem cells_undef : PV.cells .undef = [.undef] := nrfl rfl
theorem low_undef : PV.low N .undef = true := by simp only [PV.low]
end
theorem lowL_nil {n : Nat} : lowL n [] = true := by simp only [lowL]
theorem lowL_cons {n : Nat} {v : PV} {r : List PV} : lowL n (v :: r) = (v.low n && lowL n r) := by simp only [lowL]
def bdR (H : Heap) : Option (List PV) → Option (Out PV)
  | some cs => some (.ok (.agg cs) H)
  | none => none
theorem bdR_some {cs : List PV} : bdR H (some cs) = some (.ok (.agg cs) H) := nrfl rfl
theorem run_bd {zero : List PV} {parts : List (Nat × Nat × PV)} : run (bd zero parts) H = bdR H (fillAll parts zero) := by
  unfold run bd bdR
  cases fillAll parts zero <;> rfl
theorem fillAll_nil {cs : List PV} : fillAll [] cs = some cs := nrfl rfl
theorem fillAll_cons {off size : Nat} {v : PV} {r : List (Nat × Nat × PV)} {cs : List PV} : fillAll ((off, size, v) :: r) cs = if v.cells.length = size ∧ off + size ≤ cs.length ∧ v.cells.all isCell = true then fillAll r (fillAt off (v.cells.map stripC) cs) else none := by
  show (bif v.cells.length == size && (decide (off + size ≤ cs.length) && v.cells.all isCell) then fillAll r (fillAt off (v.cells.map stripC) cs) else none) = _
  cases hb : v.cells.all isCell <;> by_cases h1 : v.cells.length = size <;> by_cases h2 : off + size ≤ cs.length <;> simp [h1, h2, hb, beq_eq_decide' (v.cells.length) size]
theorem fillAt_is {off : Nat} {vs cs : List PV} : fillAt off vs cs = cs.take off ++ vs ++ cs.drop (off + vs.length) := nrfl rfl
def bsR (own : Bool) (a : Option Nat) (vs : List PV) (H : Heap) : Option (Out PV) := if vs.all (isFlatElem a) = true then some (.ok (.slice own false (a.getD 1) vs) H) else none
theorem run_bs {own : Bool} {a : Option Nat} {vs : List PV} : run (bs own a vs) H = bsR own a (vs.map stripC) H := by
  unfold run bs bsR
  cases ((vs.map stripC).all (isFlatElem a)) <;> rfl
def noPanR : Option (Out PV) → Option (Out PV)
  | some (.ok v H) => some (.ok v H)
  | _ => none
theorem run_noPan {m : M PV} : run (noPan m) H = noPanR (run m H) := by
  unfold run noPan noPanR
  cases m H with
  | none => rfl
  | some q => cases q <;> rfl
theorem noPanR_ok {v : PV} {H : Heap} : noPanR (some (.ok v H)) = some (.ok v H) := nrfl rfl
theorem noPanR_pan {v : PV} {H : Heap} : noPanR (some (.pan v H)) = none := nrfl rfl
theorem noPanR_none : noPanR none = none := nrfl rfl
theorem noPanR_ite {c : Prop} [Decidable c] {r r' : Option (Out PV)} : noPanR (if c then r else r') = if c then noPanR r else noPanR r' := by split <;> rfl
noncomputable def chkR (r r' : Option (Out α)) (x : M β) (H : Heap) : Option (Out β) := run (chk (fun _ => r) (fun _ => r') x) H
@[congr] theorem chkR_congr {r r' s s' : Option (Out α)} {x : M β} (h : r = s) (h' : r' = s') : chkR r r' x H = chkR s s' x H := by rw [h, h']
theorem run_chk {m m' : M α} {x : M β} : run (chk m m' x) H = chkR (run m H) (run m' H) x H := nrfl rfl
theorem chkR_ok {a : α} {K : Heap} {x : M β} : chkR (some (.ok a K)) (some (.ok a K)) x H = run x H := by
  simp [chkR, run, chk]
theorem tld_ptr {i o : Nat} : tld (.ptr i o) = .ld i := nrfl rfl
theorem tst_ptr {i o : Nat} : tst (.ptr i o) = .st i := nrfl rfl
theorem tld_elem {cs : List PV} : tld (.elem cs) = .no := nrfl rfl
theorem clash_no {x : Touch} : clash .no x = false := nrfl rfl
theorem clash_no' {y : Touch} : clash y .no = false := by cases y <;> rfl
theorem clash_ld_ld {i j : Nat} : clash (.ld i) (.ld j) = false := nrfl rfl
theorem clash_ld_st {i j : Nat} : clash (.ld j) (.st i) = (i == j) := nrfl rfl
theorem clash_st_ld {i j : Nat} : clash (.st j) (.ld i) = (i == j) := nrfl rfl
theorem clash_st_st {i j : Nat} : clash (.st j) (.st i) = (i == j) := nrfl rfl
theorem clash_any_ld {i : Nat} : clash .any (.ld i) = false := nrfl rfl
theorem clash_ld_any {i : Nat} : clash (.ld i) .any = false := nrfl rfl
theorem clash_any_any : clash .any .any = false := nrfl rfl
def defR (CD : Option PV → CallT) (f : FuncId) (args : List PV) (res : M PV) : Option (Out PV) → Option (Out PV)
  | none => none
  | some (.ok _ H) => bindR (run (CD none f args) H) (fun _ => res)
  | some (.pan v H) => bindR (run (CD (some v) f args) H) (fun r => match r with | .tup [] => res | _ => M.fail)
theorem run_defer {CD : Option PV → CallT} {f : FuncId} {u v args : List PV} {rest res : M PV} : run (deferM CD (.fn f u v) args rest res) H = defR CD f (u ++ args ++ v) res (run rest H) := by
  unfold run deferM defR
  dsimp only
  cases rest H with
  | none => rfl
  | some q => cases q <;> rfl
@[congr] theorem defR_congr {CD : Option PV → CallT} {f : FuncId} {args : List PV} {res : M PV} {r r' : Option (Out PV)} (h : r = r') : defR CD f args res r = defR CD f args res r' := by rw [h]
theorem defR_none {CD : Option PV → CallT} {f : FuncId} {args : List PV} {res : M PV} : defR CD f args res none = none := nrfl rfl
theorem defR_ok {CD : Option PV → CallT} {f : FuncId} {args : List PV} {res : M PV} {v : PV} : defR CD f args res (some (.ok v H)) = bindR (run (CD none f args) H) (fun _ => res) := nrfl rfl
theorem defR_pan {CD : Option PV → CallT} {f : FuncId} {args : List PV} {res : M PV} {v : PV} : defR CD f args res (some (.pan v H)) = bindR (run (CD (some v) f args) H) (fun r => match r with | .tup [] => res | _ => M.fail) := nrfl rfl
theorem defR_ite {CD : Option PV → CallT} {f : FuncId} {args : List PV} {res : M PV} {c : Prop} [Decidable c] {r r' : Option (Out PV)} : defR CD f args res (if c then r else r') = if c then defR CD f args res r else defR CD f args res r' := by split <;> rfl
end Go.Proofs.Ytofbbijagbpicaa.Pi
namespace Go.Proofs.Ytofbbijagbpicaa.Pi
set_option linter.unusedVariables false
set_option linter.unusedSimpArgs false
def byt (c : UInt8) : PV := .int .u8 c.toNat
abbrev bytes (b : List UInt8) : List PV := b.map byt
theorem bv_and {w a b : Nat} (ha : a < 2 ^ w) (hb : b < 2 ^ w) : (BitVec.ofInt w (a : Int) &&& BitVec.ofInt w (b : Int)).toNat = a &&& b := by
  rw [BitVec.toNat_and, BitVec.ofInt_natCast, BitVec.ofInt_natCast, BitVec.toNat_ofNat, BitVec.toNat_ofNat, Nat.mod_eq_of_lt ha, Nat.mod_eq_of_lt hb]
theorem and127 (a : Nat) (ha : a < 256) : IntKind.u8.wrap ((BitVec.ofInt IntKind.u8.bits (a : Int) &&& BitVec.ofInt IntKind.u8.bits 127).toNat : Int) = ((a % 128 : Nat) : Int) := by
  have e : (127 : Int) = ((127 : Nat) : Int) := rfl
  have h := bv_and (w := 8) (a := a) (b := 127) ha (by decide)
  rw [show IntKind.u8.bits = 8 from rfl, e, h, Nat.and_two_pow_sub_one_eq_mod a 7]
  exact w_u8 (by omega)
inductive Rs (α : Type) where
  | ok (v : α) (p : Nat)
  | err (p e : Nat)
end Go.Proofs.Ytofbbijagbpicaa.Pi
namespace Go.Proofs.Ytofbbijagbpicaa.Pi
set_option linter.unusedVariables false
set_option linter.unusedSimpArgs false
theorem wi (x : Int) : IntKind.i64.wrap x = (x + 9223372036854775808) % 18446744073709551616 - 9223372036854775808 := by rw [IntKind.wrap_i64]
def okS (h c : Nat) : Prop := c < 128 ∧ (c / 2 ^ (h - 1) = 0 ∨ c / 2 ^ (h - 1) = 2 ^ (8 - h) - 1)
instance (h c : Nat) : Decidable (okS h c) := by unfold okS; infer_instance
theorem u8_wrap (n : Int) : IntKind.u8.wrap n = n % 256 := by
  simp [IntKind.wrap, IntKind.bits, IntKind.signed]
end Go.Proofs.Ytofbbijagbpicaa.Pi
namespace Go.Proofs.Ytofbbijagbpicaa.Pi
open Go.ChangeShapes Go.WideShapes
set_option linter.unusedVariables false
set_option linter.unusedSimpArgs false
def imOf (w : World) (b o : Nat) : Option Value := w.cell? ⟨b, o, none⟩
theorem imOf_ok (w : World) : ∀ b o v, imOf w b o = some v → w.cell? ⟨b, o, none⟩ = some v := fun _ _ _ h => h
end Go.Proofs.Ytofbbijagbpicaa.Pi
namespace Go.Proofs.Ytofbbijagbpicaa.Pi
set_option linter.unusedVariables false
set_option maxRecDepth 100000
theorem goDown : type_of% (And.intro (And.intro (And.intro (And.intro (And.intro @run_bind @bindR_ok) (And.intro @bindR_none @bindR_pan)) (And.intro (And.intro @bindR_ite
    @run_nb) (And.intro @nbR_ok @nbR_ite))) (And.intro (And.intro (And.intro @run_trunc @truncR_ite) (And.intro @truncR_none @truncR_ok)) (And.intro
    (And.intro @truncR_pan @run_guard) (And.intro @run_resT (And.intro @run_cond @run_gdT))))) (And.intro (And.intro (And.intro (And.intro @run_gdF
    @run_gdS) (And.intro @run_pure @run_pan)) (And.intro (And.intro @run_fail @run_noPan) (And.intro @noPanR_ok @noPanR_pan))) (And.intro (And.intro
    (And.intro @noPanR_none @noPanR_ite) (And.intro @run_chk @chkR_ok)) (And.intro (And.intro @run_defer @defR_none) (And.intro @defR_ok (And.intro
    @defR_pan @defR_ite)))))) := (And.intro (And.intro (And.intro (And.intro (And.intro @run_bind @bindR_ok) (And.intro @bindR_none @bindR_pan)) (And.intro (And.intro @bindR_ite
    @run_nb) (And.intro @nbR_ok @nbR_ite))) (And.intro (And.intro (And.intro @run_trunc @truncR_ite) (And.intro @truncR_none @truncR_ok)) (And.intro
    (And.intro @truncR_pan @run_guard) (And.intro @run_resT (And.intro @run_cond @run_gdT))))) (And.intro (And.intro (And.intro (And.intro @run_gdF
    @run_gdS) (And.intro @run_pure @run_pan)) (And.intro (And.intro @run_fail @run_noPan) (And.intro @noPanR_ok @noPanR_pan))) (And.intro (And.intro
    (And.intro @noPanR_none @noPanR_ite) (And.intro @run_chk @chkR_ok)) (And.intro (And.intro @run_defer @defR_none) (And.intro @defR_ok (And.intro
    @defR_pan @defR_ite))))))
theorem goUp : type_of% (And.intro (And.intro (And.intro (And.intro (And.intro (And.intro (And.intro @strip_skip (And.intro @run_pick @run_al)) (And.intro (And.intro @run_bx
    @run_ld) (And.intro @run_st @ldB_some))) (And.intro (And.intro (And.intro @nth_zero @nth_succ) (And.intro @ldTR_some @ldFR_some)) (And.intro
    (And.intro @ldB_t @ldB_f) (And.intro @stB_is @run_ldE0)))) (And.intro (And.intro (And.intro @run_ldEn (And.intro @get_loc @get_loc0)) (And.intro
    (And.intro @get_old @set_loc) (And.intro @set_loc0 @set_old))) (And.intro (And.intro (And.intro @get_set @set_set) (And.intro @add_add @cut0))
    (And.intro (And.intro @cut1 @cut2) (And.intro @cutA0 @cutA1))))) (And.intro (And.intro (And.intro (And.intro @cutA2 (And.intro @len_add @len_set))
    (And.intro (And.intro @w_i64 @w_u64) (And.intro @w_u8 @w_u32))) (And.intro (And.intro (And.intro @w_i32 @run_quo) (And.intro @run_rem @iaR_some))
    (And.intro (And.intro @run_iaS @run_fa) (And.intro @run_faE @callV_fn)))) (And.intro (And.intro (And.intro @nc_ptr (And.intro @nc_elem @nc_nil))
    (And.intro (And.intro @run_mi @run_pn) (And.intro @run_cvI @run_ex0))) (And.intro (And.intro (And.intro @run_ex1 @run_ex2) (And.intro @tupDrop0
    @tupDrop1)) (And.intro (And.intro @tupDrop2 @isTup_int) (And.intro @isCell_int @isVal_int)))))) (And.intro (And.intro (And.intro (And.intro
    (And.intro @isPtr_int (And.intro @cells_int @low_int)) (And.intro (And.intro @isTup_bool @isCell_bool) (And.intro @isVal_bool @isPtr_bool)))
    (And.intro (And.intro (And.intro @cells_bool @low_bool) (And.intro @isTup_str @isCell_str)) (And.intro (And.intro @isVal_str @isPtr_str) (And.intro
    @cells_str @low_str)))) (And.intro (And.intro (And.intro @isTup_nil (And.intro @isCell_nil @isVal_nil)) (And.intro (And.intro @isPtr_nil
    @cells_nil) (And.intro @low_nil @isTup_ptr))) (And.intro (And.intro (And.intro @isCell_ptr @isVal_ptr) (And.intro @isPtr_ptr @cells_ptr))
    (And.intro (And.intro @low_ptr @isTup_elem) (And.intro @isCell_elem @isVal_elem))))) (And.intro (And.intro (And.intro (And.intro @isPtr_elem
    (And.intro @cells_elem @low_elem)) (And.intro (And.intro @isTup_slice @isCell_slice) (And.intro @isVal_slice @isPtr_slice))) (And.intro (And.intro
    (And.intro @cells_slice @low_slice) (And.intro @isTup_fn @isCell_fn)) (And.intro (And.intro @isVal_fn @isPtr_fn) (And.intro @cells_fn @low_fn))))
    (And.intro (And.intro (And.intro @isTup_nilfn (And.intro @isCell_nilfn @isVal_nilfn)) (And.intro (And.intro @isPtr_nilfn @cells_nilfn) (And.intro
    @low_nilfn @isTup_iface))) (And.intro (And.intro (And.intro @isCell_iface @isVal_iface) (And.intro @isPtr_iface @cells_iface)) (And.intro
    (And.intro @low_iface @isTup_niliface) (And.intro @isCell_niliface @isVal_niliface))))))) (And.intro (And.intro (And.intro (And.intro (And.intro
    (And.intro @isPtr_niliface (And.intro @cells_niliface @low_niliface)) (And.intro (And.intro @isTup_agg @isCell_agg) (And.intro @isVal_agg
    @isPtr_agg))) (And.intro (And.intro (And.intro @cells_agg @low_agg) (And.intro @isTup_tup @isCell_tup)) (And.intro (And.intro @isVal_tup
    @isPtr_tup) (And.intro @cells_tup @low_tup)))) (And.intro (And.intro (And.intro @isTup_undef (And.intro @isCell_undef @isVal_undef)) (And.intro
    (And.intro @isPtr_undef @cells_undef) (And.intro @low_undef @lowL_nil))) (And.intro (And.intro (And.intro @lowL_cons @bdR_some) (And.intro @run_bd
    @fillAll_nil)) (And.intro (And.intro @fillAll_cons @fillAt_is) (And.intro @run_bs @tld_ptr))))) (And.intro (And.intro (And.intro (And.intro
    @tst_ptr (And.intro @tld_elem @clash_no)) (And.intro (And.intro @clash_no' @clash_ld_ld) (And.intro @clash_ld_st @clash_st_ld))) (And.intro
    (And.intro (And.intro @clash_st_st @clash_any_ld) (And.intro @clash_ld_any @clash_any_any)) (And.intro (And.intro @strip_int @strip_bool)
    (And.intro @strip_str @strip_slice)))) (And.intro (And.intro (And.intro @strip_ptr (And.intro @strip_agg @strip_elem)) (And.intro (And.intro
    @strip_nil @strip_niliface) (And.intro @strip_iface @strip_fn))) (And.intro (And.intro (And.intro @strip_undef @strip_tup) (And.intro @stripC_int
    @stripC_bool)) (And.intro (And.intro @stripC_str @stripC_slice) (And.intro @stripC_ptr @stripC_agg)))))) (And.intro (And.intro (And.intro
    (And.intro (And.intro @stripC_nil (And.intro @stripC_niliface @stripC_iface)) (And.intro (And.intro @stripC_fn @bi_add) (And.intro @bi_sub
    @bi_mul))) (And.intro (And.intro (And.intro @bi_eql @bi_neq) (And.intro @bi_lss @bi_leq)) (And.intro (And.intro @bi_gtr @bi_geq) (And.intro
    @bi_seql @bi_sneq)))) (And.intro (And.intro (And.intro @bi_beql (And.intro @bi_bneq @un_not)) (And.intro (And.intro @lnL_slice @lnS_str) (And.intro
    @mx_int @mn_int))) (And.intro (And.intro (And.intro @cv_int @Bool.and_true) (And.intro @Bool.true_and @Bool.and_self)) (And.intro (And.intro
    @Bool.not_true @Bool.not_false) (And.intro @Bool.and_false @Bool.false_and))))) (And.intro (And.intro (And.intro (And.intro @Bool.or_true
    (And.intro @Bool.or_false @Bool.true_or)) (And.intro (And.intro @Bool.false_or @Bool.false_eq_true) (And.intro @decide_eq_true_eq @and_self)))
    (And.intro (And.intro (And.intro @and_true @true_and) (And.intro @not_true_eq_false @not_false_eq_true)) (And.intro (And.intro @Nat.zero_add
    @Nat.add_zero) (And.intro @Nat.le_refl @Nat.lt_add_one)))) (And.intro (And.intro (And.intro (And.intro @Nat.lt_irrefl @and_false) (And.intro
    @false_and @Bool.not_eq_true')) (And.intro (And.intro @Bool.not_eq_eq_eq_not @decide_eq_false_iff_not) (And.intro @Bool.and_eq_true
    @Bool.or_eq_true))) (And.intro (And.intro (And.intro @decide_true @decide_false) (And.intro @get_loc1 @get_loc01)) (And.intro (And.intro @set_loc1
    @set_loc01) (And.intro @get_old1 @set_old1)))))))) := (And.intro (And.intro (And.intro (And.intro (And.intro (And.intro (And.intro @strip_skip (And.intro @run_pick @run_al)) (And.intro (And.intro @run_bx
    @run_ld) (And.intro @run_st @ldB_some))) (And.intro (And.intro (And.intro @nth_zero @nth_succ) (And.intro @ldTR_some @ldFR_some)) (And.intro
    (And.intro @ldB_t @ldB_f) (And.intro @stB_is @run_ldE0)))) (And.intro (And.intro (And.intro @run_ldEn (And.intro @get_loc @get_loc0)) (And.intro
    (And.intro @get_old @set_loc) (And.intro @set_loc0 @set_old))) (And.intro (And.intro (And.intro @get_set @set_set) (And.intro @add_add @cut0))
    (And.intro (And.intro @cut1 @cut2) (And.intro @cutA0 @cutA1))))) (And.intro (And.intro (And.intro (And.intro @cutA2 (And.intro @len_add @len_set))
    (And.intro (And.intro @w_i64 @w_u64) (And.intro @w_u8 @w_u32))) (And.intro (And.intro (And.intro @w_i32 @run_quo) (And.intro @run_rem @iaR_some))
    (And.intro (And.intro @run_iaS @run_fa) (And.intro @run_faE @callV_fn)))) (And.intro (And.intro (And.intro @nc_ptr (And.intro @nc_elem @nc_nil))
    (And.intro (And.intro @run_mi @run_pn) (And.intro @run_cvI @run_ex0))) (And.intro (And.intro (And.intro @run_ex1 @run_ex2) (And.intro @tupDrop0
    @tupDrop1)) (And.intro (And.intro @tupDrop2 @isTup_int) (And.intro @isCell_int @isVal_int)))))) (And.intro (And.intro (And.intro (And.intro
    (And.intro @isPtr_int (And.intro @cells_int @low_int)) (And.intro (And.intro @isTup_bool @isCell_bool) (And.intro @isVal_bool @isPtr_bool)))
    (And.intro (And.intro (And.intro @cells_bool @low_bool) (And.intro @isTup_str @isCell_str)) (And.intro (And.intro @isVal_str @isPtr_str) (And.intro
    @cells_str @low_str)))) (And.intro (And.intro (And.intro @isTup_nil (And.intro @isCell_nil @isVal_nil)) (And.intro (And.intro @isPtr_nil
    @cells_nil) (And.intro @low_nil @isTup_ptr))) (And.intro (And.intro (And.intro @isCell_ptr @isVal_ptr) (And.intro @isPtr_ptr @cells_ptr))
    (And.intro (And.intro @low_ptr @isTup_elem) (And.intro @isCell_elem @isVal_elem))))) (And.intro (And.intro (And.intro (And.intro @isPtr_elem
    (And.intro @cells_elem @low_elem)) (And.intro (And.intro @isTup_slice @isCell_slice) (And.intro @isVal_slice @isPtr_slice))) (And.intro (And.intro
    (And.intro @cells_slice @low_slice) (And.intro @isTup_fn @isCell_fn)) (And.intro (And.intro @isVal_fn @isPtr_fn) (And.intro @cells_fn @low_fn))))
    (And.intro (And.intro (And.intro @isTup_nilfn (And.intro @isCell_nilfn @isVal_nilfn)) (And.intro (And.intro @isPtr_nilfn @cells_nilfn) (And.intro
    @low_nilfn @isTup_iface))) (And.intro (And.intro (And.intro @isCell_iface @isVal_iface) (And.intro @isPtr_iface @cells_iface)) (And.intro
    (And.intro @low_iface @isTup_niliface) (And.intro @isCell_niliface @isVal_niliface))))))) (And.intro (And.intro (And.intro (And.intro (And.intro
    (And.intro @isPtr_niliface (And.intro @cells_niliface @low_niliface)) (And.intro (And.intro @isTup_agg @isCell_agg) (And.intro @isVal_agg
    @isPtr_agg))) (And.intro (And.intro (And.intro @cells_agg @low_agg) (And.intro @isTup_tup @isCell_tup)) (And.intro (And.intro @isVal_tup
    @isPtr_tup) (And.intro @cells_tup @low_tup)))) (And.intro (And.intro (And.intro @isTup_undef (And.intro @isCell_undef @isVal_undef)) (And.intro
    (And.intro @isPtr_undef @cells_undef) (And.intro @low_undef @lowL_nil))) (And.intro (And.intro (And.intro @lowL_cons @bdR_some) (And.intro @run_bd
    @fillAll_nil)) (And.intro (And.intro @fillAll_cons @fillAt_is) (And.intro @run_bs @tld_ptr))))) (And.intro (And.intro (And.intro (And.intro
    @tst_ptr (And.intro @tld_elem @clash_no)) (And.intro (And.intro @clash_no' @clash_ld_ld) (And.intro @clash_ld_st @clash_st_ld))) (And.intro
    (And.intro (And.intro @clash_st_st @clash_any_ld) (And.intro @clash_ld_any @clash_any_any)) (And.intro (And.intro @strip_int @strip_bool)
    (And.intro @strip_str @strip_slice)))) (And.intro (And.intro (And.intro @strip_ptr (And.intro @strip_agg @strip_elem)) (And.intro (And.intro
    @strip_nil @strip_niliface) (And.intro @strip_iface @strip_fn))) (And.intro (And.intro (And.intro @strip_undef @strip_tup) (And.intro @stripC_int
    @stripC_bool)) (And.intro (And.intro @stripC_str @stripC_slice) (And.intro @stripC_ptr @stripC_agg)))))) (And.intro (And.intro (And.intro
    (And.intro (And.intro @stripC_nil (And.intro @stripC_niliface @stripC_iface)) (And.intro (And.intro @stripC_fn @bi_add) (And.intro @bi_sub
    @bi_mul))) (And.intro (And.intro (And.intro @bi_eql @bi_neq) (And.intro @bi_lss @bi_leq)) (And.intro (And.intro @bi_gtr @bi_geq) (And.intro
    @bi_seql @bi_sneq)))) (And.intro (And.intro (And.intro @bi_beql (And.intro @bi_bneq @un_not)) (And.intro (And.intro @lnL_slice @lnS_str) (And.intro
    @mx_int @mn_int))) (And.intro (And.intro (And.intro @cv_int @Bool.and_true) (And.intro @Bool.true_and @Bool.and_self)) (And.intro (And.intro
    @Bool.not_true @Bool.not_false) (And.intro @Bool.and_false @Bool.false_and))))) (And.intro (And.intro (And.intro (And.intro @Bool.or_true
    (And.intro @Bool.or_false @Bool.true_or)) (And.intro (And.intro @Bool.false_or @Bool.false_eq_true) (And.intro @decide_eq_true_eq @and_self)))
    (And.intro (And.intro (And.intro @and_true @true_and) (And.intro @not_true_eq_false @not_false_eq_true)) (And.intro (And.intro @Nat.zero_add
    @Nat.add_zero) (And.intro @Nat.le_refl @Nat.lt_add_one)))) (And.intro (And.intro (And.intro (And.intro @Nat.lt_irrefl @and_false) (And.intro
    @false_and @Bool.not_eq_true')) (And.intro (And.intro @Bool.not_eq_eq_eq_not @decide_eq_false_iff_not) (And.intro @Bool.and_eq_true
    @Bool.or_eq_true))) (And.intro (And.intro (And.intro @decide_true @decide_false) (And.intro @get_loc1 @get_loc01)) (And.intro (And.intro @set_loc1
    @set_loc01) (And.intro @get_old1 @set_old1))))))))
end Go.Proofs.Ytofbbijagbpicaa.Pi
namespace Go.Proofs.Ytofbbijagbpicaa.Pi
set_option linter.unusedVariables false
set_option linter.unusedSimpArgs false
variable {α β σ : Type} {c : Nat} {H : Heap}
def St (H : Heap) (c : Nat) (bx : Box) (L : List Box) : Heap := hadd (hset H c bx) L
def killR (c : Nat) : Option (Out α) → Option (Out α)
  | some (.pan v H) => some (.pan v (hset H c .dead))
  | r => r
def runK (c : Nat) (m : M α) (H : Heap) : Option (Out α) := killR c (run m H)
def bindK (c : Nat) (r : Option (Out α)) (f : α → M β) : Option (Out β) :=
  match r with
  | none => none
  | some (.ok v H) => runK c (f v) H
  | some (.pan v H) => some (.pan v H)
inductive Res (σ α : Type) where
  | ok (v : α) (s : σ)
  | err (t : TypeId) (l : List Int)
  | no
def fltP (t : TypeId) (l : List Int) : PV := .iface t (.agg (l.map (PV.int .i64)))
theorem fltP_is {t : TypeId} {l : List Int} : fltP t l = .iface t (.agg (l.map (PV.int .i64))) := nrfl rfl
theorem lowL_ints {n : Nat} : ∀ l : List Int, lowL n (l.map (PV.int .i64)) = true
  | [] => lowL_nil
  | a :: r => by rw [List.map_cons, lowL_cons, low_int, lowL_ints r]; rfl
theorem low_fltP {t : TypeId} {l : List Int} {n : Nat} : (fltP t l).low n = true := by
  unfold fltP
  rw [low_iface, low_agg]
  exact lowL_ints l
def Res.bind {σ τ α β : Type} (r : Res σ α) (g : α → σ → Res τ β) : Res τ β :=
  match r with
  | .ok v s => g v s
  | .err t l => .err t l
  | .no => .no
def elimK {σ α γ : Type} (c : Nat) (H : Heap) (L : List Box) (r : Res σ α) (g : α → σ → Option (Out γ)) : Option (Out γ) :=
  match r with
  | .ok v s => g v s
  | .err t l => some (.pan (fltP t l) (St H c .dead L))
  | .no => none
def outK (c : Nat) (H : Heap) (L : List Box) (bx : σ → Box) (enc : α → PV) (r : Res σ α) : Option (Out PV) := elimK c H L r fun v s => some (.ok (enc v) (St H c (bx s) L))
def outS (c : Nat) (H : Heap) (L : List Box) (bx : σ → Box) (enc : α → PV) (r : α × σ) : Option (Out PV) := some (.ok (enc r.1) (St H c (bx r.2) L))
@[congr] theorem bindK_congr {r r' : Option (Out α)} {f : α → M β} (h : r = r') : bindK c r f = bindK c r' f := by rw [h]
@[congr] theorem elimK_congr {σ α γ : Type} {L L' : List Box} {r r' : Res σ α} {g g' : α → σ → Option (Out γ)} (h : r = r') (hL : L = L') (hg : ∀ v s, r' = .ok v s → g v s = g' v s) : elimK c H L r g = elimK c H L' r' g' := by
  subst h hL
  cases r with
  | ok v s => exact hg v s rfl
  | err t l => rfl
  | no => rfl
theorem outK_is {L : List Box} {bx : σ → Box} {enc : α → PV} {r : Res σ α} : outK c H L bx enc r = elimK c H L r fun v s => some (.ok (enc v) (St H c (bx s) L)) := nrfl rfl
theorem outK_ok {L : List Box} {bx : σ → Box} {enc : α → PV} {v : α} {s : σ} : outK c H L bx enc (.ok v s) = some (.ok (enc v) (St H c (bx s) L)) := nrfl rfl
theorem outK_err {L : List Box} {bx : σ → Box} {enc : α → PV} {t : TypeId} {l : List Int} : outK c H L bx enc (Res.err t l : Res σ α) = some (.pan (fltP t l) (St H c .dead L)) := nrfl rfl
theorem outK_no {L : List Box} {bx : σ → Box} {enc : α → PV} : outK c H L bx enc (Res.no : Res σ α) = none := nrfl rfl
theorem elimK_no {γ : Type} {L : List Box} {g : α → σ → Option (Out γ)} : elimK c H L (Res.no : Res σ α) g = none := nrfl rfl
theorem outK_bind {τ : Type} {β : Type} {L : List Box} {bx : σ → Box} {enc : α → PV} {r : Res τ β} {g : β → τ → Res σ α} : outK c H L bx enc (r.bind g) = elimK c H L r fun v s => outK c H L bx enc (g v s) := by cases r <;> rfl
theorem outK_ite {L : List Box} {bx : σ → Box} {enc : α → PV} {p : Prop} [Decidable p] {r r' : Res σ α} : outK c H L bx enc (if p then r else r') = if p then outK c H L bx enc r else outK c H L bx enc r' := by split <;> rfl
theorem elimK_ok {γ : Type} {L : List Box} {v : α} {s : σ} {g : α → σ → Option (Out γ)} : elimK c H L (.ok v s) g = g v s := nrfl rfl
theorem elimK_err {γ : Type} {L : List Box} {t : TypeId} {l : List Int} {g : α → σ → Option (Out γ)} : elimK c H L (Res.err t l : Res σ α) g = some (.pan (fltP t l) (St H c .dead L)) := nrfl rfl
theorem elimK_ite {γ : Type} {L : List Box} {p : Prop} [Decidable p] {r r' : Res σ α} {g : α → σ → Option (Out γ)} : elimK c H L (if p then r else r') g = if p then elimK c H L r g else elimK c H L r' g := by split <;> rfl
theorem elimK_bind {γ τ β : Type} {L : List Box} {r : Res τ β} {f : β → τ → Res σ α} {g : α → σ → Option (Out γ)} : elimK c H L (r.bind f) g = elimK c H L r fun v s => elimK c H L (f v s) g := by cases r <;> rfl
theorem killR_ok {v : α} : killR c (some (.ok v H)) = some (.ok v H) := nrfl rfl
theorem killR_none : killR c (none : Option (Out α)) = none := nrfl rfl
theorem killR_pan {v : PV} : killR c (some (.pan v H) : Option (Out α)) = some (.pan v (hset H c .dead)) := nrfl rfl
theorem killR_ite {p : Prop} [Decidable p] {r r' : Option (Out α)} : killR c (if p then r else r') = if p then killR c r else killR c r' := by split <;> rfl
theorem runK_bind {m : M α} {f : α → M β} : runK c (M.bind m f) H = bindK c (runK c m H) f := by
  unfold runK
  rw [run_bind]
  cases run m H with
  | none => rfl
  | some q => cases q <;> rfl
theorem bindK_ok {f : α → M β} {v : α} : bindK c (some (.ok v H)) f = runK c (f v) H := nrfl rfl
theorem bindK_none {f : α → M β} : bindK c none f = none := nrfl rfl
theorem bindK_pan {f : α → M β} {v : PV} : bindK c (some (.pan v H)) f = some (.pan v H) := nrfl rfl
theorem bindK_ite {p : Prop} [Decidable p] {r r' : Option (Out α)} {f : α → M β} : bindK c (if p then r else r') f = if p then bindK c r f else bindK c r' f := by split <;> rfl
theorem bindK_elim {L : List Box} {r : Res σ α} {g : α → σ → Option (Out PV)} {f : PV → M β} : bindK c (elimK c H L r g) f = elimK c H L r fun v s => bindK c (g v s) f := by cases r <;> rfl
noncomputable def nbK (c : Nat) (H : Heap) (r : Option (Out α)) (f : α → M β) : Option (Out β) := killR c (nbR H r f)
@[congr] theorem nbK_congr {r r' : Option (Out α)} {f : α → M β} (h : r = r') : nbK c H r f = nbK c H r' f := by rw [h]
theorem runK_nb {m : M α} {f : α → M β} : runK c (nb m f) H = nbK c H (runK c m H) f := by
  unfold nbK runK nbR run nb killR
  dsimp only
  cases m H with
  | none => rfl
  | some q => cases q <;> rfl
theorem nbK_ok {f : α → M β} {v : α} : nbK c H (some (.ok v H)) f = runK c (f v) H := by
  unfold nbK
  rw [nbR_ok]
  rfl
theorem nbK_none {f : α → M β} : nbK c H none f = none := by
  unfold nbK nbR nb
  rfl
theorem nbK_ite {p : Prop} [Decidable p] {r r' : Option (Out α)} {f : α → M β} : nbK c H (if p then r else r') f = if p then nbK c H r f else nbK c H r' f := by split <;> rfl
theorem runK_trunc {m : M PV} (hc : c < List.length H) : runK c (trunc m) H = truncR H (runK c m H) := by
  unfold runK
  rw [run_trunc]
  cases run m H with
  | none => rfl
  | some q => cases q with
    | ok v K => rfl
    | pan v K =>
      show killR c (bif v.low H.length then some (Out.pan v (hcut K H.length)) else none) = (bif v.low H.length then some (Out.pan v (hcut (hset K c .dead) H.length)) else none)
      cases v.low H.length with
      | false => rfl
      | true =>
        simp only [cond_true, killR_pan, Option.some.injEq, Out.pan.injEq, true_and]
        unfold hset hcut
        rw [List.take_set]
theorem runK_guard {p : Bool} {m : M α} : runK c (guardM p m) H = if p = true then runK c m H else none := by cases p <;> rfl
theorem runK_resT {v : PV} {m : M PV} : runK c (resT v m) H = if isTup v = true then none else runK c m H := by unfold resT; cases isTup v <;> rfl
theorem runK_cond {p : Bool} {x y : M α} : runK c (condM (.bool p) x y) H = if p = true then runK c x H else runK c y H := by cases p <;> rfl
theorem runK_gdT {p : Bool} {m : M PV} : runK c (gd (.bool p) true m) H = if p = true then runK c m H else some (.ok (.tup []) H) := by cases p <;> rfl
theorem runK_gdF {p : Bool} {m : M PV} : runK c (gd (.bool p) false m) H = if p = true then some (.ok (.tup []) H) else runK c m H := by cases p <;> rfl
theorem runK_gdS {b : Bool} {m : M PV} : runK c (gd (.tup []) b m) H = some (.ok (.tup []) H) := nrfl rfl
theorem runK_pure {v : α} : runK c (M.pure v) H = some (.ok v H) := nrfl rfl
theorem runK_pan {v : PV} : runK c (M.pan v : M α) H = some (.pan v (hset H c .dead)) := nrfl rfl
theorem runK_fail : runK c (M.fail : M α) H = none := nrfl rfl
theorem runK_noPan {m : M PV} : runK c (noPan m) H = noPanR (run m H) := by
  unfold runK
  rw [run_noPan]
  cases run m H with
  | none => rfl
  | some q => cases q <;> rfl
noncomputable def chkK (c : Nat) (r r' : Option (Out α)) (x : M β) (H : Heap) : Option (Out β) := killR c (chkR r r' x H)
@[congr] theorem chkK_congr {r r' s s' : Option (Out α)} {x : M β} (h : r = s) (h' : r' = s') : chkK c r r' x H = chkK c s s' x H := by rw [h, h']
theorem runK_chk {m m' : M α} {x : M β} : runK c (chk m m' x) H = chkK c (run m H) (run m' H) x H := nrfl rfl
theorem chkK_ok {a : α} {K : Heap} {x : M β} : chkK c (some (.ok a K)) (some (.ok a K)) x H = runK c x H := by
  unfold chkK
  rw [chkR_ok]
  rfl
theorem chkK_none {r : Option (Out α)} {x : M β} : chkK c none r x H = none := by
  unfold chkK chkR run chk
  rfl
theorem chkK_ite {p : Prop} [Decidable p] {r r' s : Option (Out α)} {x : M β} : chkK c (if p then r else r') s x H = if p then chkK c r s x H else chkK c r' s x H := by split <;> rfl
theorem chkR_none {r : Option (Out α)} {x : M β} : chkR none r x H = none := by
  unfold chkR run chk
  rfl
theorem chkR_ite {p : Prop} [Decidable p] {r r' s : Option (Out α)} {x : M β} : chkR (if p then r else r') s x H = if p then chkR r s x H else chkR r' s x H := by split <;> rfl
section
variable {n : Nat} {id o : Nat} {x y v i : PV} {cs : List PV} {m : Option Nat} {mv b : Bool} {L : List Box}
theorem runK_al : runK c (al cs) H = killR c (run (al cs) H) := nrfl rfl
theorem runK_bx : runK c (bx n v) H = killR c (run (bx n v) H) := nrfl rfl
theorem runK_ld : runK c (ld m mv v) H = killR c (run (ld m mv v) H) := nrfl rfl
theorem runK_st : runK c (st n mv x v) H = killR c (run (st n mv x v) H) := nrfl rfl
theorem runK_iaS : runK c (iaS n x i) H = killR c (run (iaS n x i) H) := nrfl rfl
theorem runK_ixA {len : Nat} : runK c (ixA len n m x i) H = killR c (run (ixA len n m x i) H) := nrfl rfl
theorem runK_pick : runK c (pick v x y) H = killR c (run (pick v x y) H) := nrfl rfl
theorem runK_mi {t : TypeId} : runK c (mi t v) H = killR c (run (mi t v) H) := nrfl rfl
theorem runK_mf {t : FuncId} {l l' : List PV} : runK c (mf t l l') H = killR c (run (mf t l l') H) := nrfl rfl
theorem runK_bd {z : List PV} {ps : List (Nat × Nat × PV)} : runK c (bd z ps) H = killR c (run (bd z ps) H) := nrfl rfl
theorem runK_bs {l : List PV} : runK c (bs b m l) H = killR c (run (bs b m l) H) := nrfl rfl
theorem runK_ap {k : Nat} : runK c (ap b n k x y) H = killR c (run (ap b n k x y) H) := nrfl rfl
theorem runK_mk {k : Nat} : runK c (mk b n k x y) H = killR c (run (mk b n k x y) H) := nrfl rfl
theorem runK_lnS : runK c (lnS x) H = killR c (run (lnS x) H) := nrfl rfl
theorem runK_lnL : runK c (lnL x) H = killR c (run (lnL x) H) := nrfl rfl
theorem runK_ixS : runK c (ixS x i) H = killR c (run (ixS x i) H) := nrfl rfl
theorem runK_slS {lo hi : Option PV} : runK c (slS x lo hi) H = killR c (run (slS x lo hi) H) := nrfl rfl
theorem runK_slL {lo hi : Option PV} : runK c (slL n x lo hi) H = killR c (run (slL n x lo hi) H) := nrfl rfl
theorem runK_cv {k : Cv} : runK c (cv k b x) H = killR c (run (cv k b x) H) := nrfl rfl
theorem runK_ex : runK c (ex n x) H = killR c (run (ex n x) H) := nrfl rfl
theorem runK_bi {op : BinOp} {ek : EqK} : runK c (bi op ek x y) H = killR c (run (bi op ek x y) H) := nrfl rfl
theorem toK {m : M PV} : runK c m H = killR c (run m H) := nrfl rfl
theorem St_flat {x : Box} (hc : c < List.length H) : St H c x L = St (hadd H L) c x [] := by
  unfold St hadd hset
  rw [List.append_nil, List.set_append_left _ _ hc]
theorem St_out {x : Box} {K : Heap} {L' : List Box} (hK : K = hadd H L) (hc : c < List.length H) : St K c x L' = St H c x (L ++ L') := by
  subst hK
  unfold St hadd hset
  rw [List.set_append_left _ _ hc, List.append_assoc]
theorem outK_out {K : Heap} {L' : List Box} {bx : σ → Box} {enc : α → PV} {r : Res σ α} (hK : K = hadd H L) (hc : c < List.length H) : outK c K L' bx enc r = outK c H (L ++ L') bx enc r := by
  cases r <;> simp only [outK, elimK, St_out hK hc]
theorem len_St {x : Box} : List.length (St H c x L) = List.length H + List.length L := by unfold St; rw [len_add, len_set]
theorem get_St {x : Box} (hc : c < List.length H) : hget (St H c x L) c = some x := by unfold St; rw [get_old1 hc, get_set hc]
theorem get_StL {x : Box} (k : Nat) : hget (St H c x L) (List.length H + k) = nth L k := get_loc1 k
theorem get_StL0 {x : Box} : hget (St H c x L) (List.length H) = nth L 0 := get_loc01
theorem set_St {x y : Box} (hc : c < List.length H) : hset (St H c x L) c y = St H c y L := by unfold St; rw [set_old1 hc, set_set]
theorem set_StL {x y : Box} (k : Nat) : hset (St H c x L) (List.length H + k) y = St H c x (L.set k y) := set_loc1 k
theorem set_StL0 {x y : Box} : hset (St H c x L) (List.length H) y = St H c x (L.set 0 y) := set_loc01
theorem add_St {x : Box} {K : List Box} : hadd (St H c x L) K = St H c x (L ++ K) := add_add
theorem cut_St {x : Box} : hcut (St H c x L) (List.length H) = St H c x [] := by
  unfold St
  rw [cutA1]
  exact (List.append_nil _).symm
theorem truncR_elim {r : Res σ α} {bx : Box} {g : α → σ → Option (Out PV)} : truncR (St H c bx []) (elimK c H L r g) = elimK c H [] r fun v s => truncR (St H c bx []) (g v s) := by
  cases r with
  | ok v s => rfl
  | err t l =>
    show truncR (St H c bx []) (some (Out.pan (fltP t l) (St H c .dead L))) = some (Out.pan (fltP t l) (St H c .dead []))
    rw [truncR_pan, if_pos low_fltP, len_St, List.length_nil, Nat.add_zero, cut_St]
  | no => rfl
theorem runK_truncS {m : M PV} {x : Box} (hc : c < List.length H) : runK c (trunc m) (St H c x L) = truncR (St H c x L) (runK c m (St H c x L)) := runK_trunc (by rw [len_St]; omega)
theorem liftK {m : M PV} {x : Box} {bx : σ → Box} {enc : α → PV} {r : Res σ α} (h : ∀ H, c < List.length H → runK c m (St H c x []) = outK c H [] bx enc r) (hc : c < List.length H) : runK c m (St H c x L) = outK c H L bx enc r := by
  rw [St_flat hc, h _ (by rw [len_add]; omega)]
  cases r with
  | ok v s => rw [outK_ok, outK_ok, St_flat (L := L) hc]
  | err t l => rw [outK_err, outK_err, St_flat (L := L) hc]
  | no => rfl
theorem outS_is {bx : σ → Box} {enc : α → PV} {v : α} {s : σ} : outS c H L bx enc (v, s) = some (.ok (enc v) (St H c (bx s) L)) := nrfl rfl
theorem bindR_S {bx : σ → Box} {enc : α → PV} {r : α × σ} {f : PV → M β} : bindR (outS c H L bx enc r) f = run (f (enc r.1)) (St H c (bx r.2) L) := nrfl rfl
end
end Go.Proofs.Ytofbbijagbpicaa.Pi
namespace Go.Proofs.Ytofbbijagbpicaa.Pi
set_option linter.unusedVariables false
set_option maxRecDepth 100000
theorem kDown : type_of% (And.intro (And.intro (And.intro (And.intro (And.intro @outK_ok @outK_err) (And.intro @outK_no (And.intro @elimK_no @outK_bind))) (And.intro
    (And.intro @outK_ite @elimK_ok) (And.intro @elimK_err (And.intro @elimK_ite @elimK_bind)))) (And.intro (And.intro (And.intro @killR_ok @killR_none)
    (And.intro @killR_pan (And.intro @killR_ite @runK_bind))) (And.intro (And.intro @bindK_ok (And.intro @bindK_none @bindK_pan)) (And.intro @bindK_ite
    (And.intro @bindK_elim @truncR_elim))))) (And.intro (And.intro (And.intro (And.intro @runK_nb @nbK_ok) (And.intro @nbK_none (And.intro @nbK_ite
    @runK_truncS))) (And.intro (And.intro @runK_guard (And.intro @runK_resT @runK_cond)) (And.intro @runK_gdT (And.intro @runK_gdF @runK_gdS))))
    (And.intro (And.intro (And.intro @runK_pure @runK_pan) (And.intro @runK_fail (And.intro @runK_noPan @runK_chk))) (And.intro (And.intro @chkK_ok
    (And.intro @chkK_none @chkK_ite)) (And.intro @chkR_none (And.intro @chkR_ite @bindR_S)))))) := (And.intro (And.intro (And.intro (And.intro (And.intro @outK_ok @outK_err) (And.intro @outK_no (And.intro @elimK_no @outK_bind))) (And.intro
    (And.intro @outK_ite @elimK_ok) (And.intro @elimK_err (And.intro @elimK_ite @elimK_bind)))) (And.intro (And.intro (And.intro @killR_ok @killR_none)
    (And.intro @killR_pan (And.intro @killR_ite @runK_bind))) (And.intro (And.intro @bindK_ok (And.intro @bindK_none @bindK_pan)) (And.intro @bindK_ite
    (And.intro @bindK_elim @truncR_elim))))) (And.intro (And.intro (And.intro (And.intro @runK_nb @nbK_ok) (And.intro @nbK_none (And.intro @nbK_ite
    @runK_truncS))) (And.intro (And.intro @runK_guard (And.intro @runK_resT @runK_cond)) (And.intro @runK_gdT (And.intro @runK_gdF @runK_gdS))))
    (And.intro (And.intro (And.intro @runK_pure @runK_pan) (And.intro @runK_fail (And.intro @runK_noPan @runK_chk))) (And.intro (And.intro @chkK_ok
    (And.intro @chkK_none @chkK_ite)) (And.intro @chkR_none (And.intro @chkR_ite @bindR_S))))))
theorem kUp : type_of% (And.intro (And.intro (And.intro (And.intro (And.intro @outK_is @outS_is) (And.intro @fltP_is @low_fltP)) (And.intro (And.intro @runK_al @runK_bx)
    (And.intro @runK_ld @runK_st))) (And.intro (And.intro (And.intro @runK_iaS @runK_ixA) (And.intro @runK_pick @runK_mi)) (And.intro (And.intro
    @runK_mf @runK_bd) (And.intro @runK_bs (And.intro @runK_ap @runK_mk))))) (And.intro (And.intro (And.intro (And.intro @runK_lnS @runK_lnL)
    (And.intro @runK_ixS @runK_slS)) (And.intro (And.intro @runK_slL @runK_cv) (And.intro @runK_ex @runK_bi))) (And.intro (And.intro (And.intro @len_St
    @get_St) (And.intro @get_StL @get_StL0)) (And.intro (And.intro @set_St @set_StL) (And.intro @set_StL0 (And.intro @add_St @cut_St)))))) := (And.intro (And.intro (And.intro (And.intro (And.intro @outK_is @outS_is) (And.intro @fltP_is @low_fltP)) (And.intro (And.intro @runK_al @runK_bx)
    (And.intro @runK_ld @runK_st))) (And.intro (And.intro (And.intro @runK_iaS @runK_ixA) (And.intro @runK_pick @runK_mi)) (And.intro (And.intro
    @runK_mf @runK_bd) (And.intro @runK_bs (And.intro @runK_ap @runK_mk))))) (And.intro (And.intro (And.intro (And.intro @runK_lnS @runK_lnL)
    (And.intro @runK_ixS @runK_slS)) (And.intro (And.intro @runK_slL @runK_cv) (And.intro @runK_ex @runK_bi))) (And.intro (And.intro (And.intro @len_St
    @get_St) (And.intro @get_StL @get_StL0)) (And.intro (And.intro @set_St @set_StL) (And.intro @set_StL0 (And.intro @add_St @cut_St))))))
end Go.Proofs.Ytofbbijagbpicaa.Pi
namespace Go.Proofs.Ytofbbijagbpicaa.Pi.Q
open Go Go.Proofs.Ytofbbijagbpicaa.Pi
set_option linter.unusedVariables false
noncomputable abbrev P : Program := Try.prog
noncomputable abbrev X : ExtT := fun _ => none
noncomputable abbrev C := callW P X
noncomputable abbrev CD := callDW P X
abbrev k_ratchetlaw08_EntryWrites : FuncId := 3
abbrev k_entry_PutHeapType : FuncId := 7
abbrev k_ratchetref08_PutHeapType : FuncId := 8
abbrev k_ratchetlaw08_same : FuncId := 9
abbrev k_entry_PutValType : FuncId := 10
abbrev k_ratchetref08_PutValType : FuncId := 11
abbrev k_entry_PutBlockType : FuncId := 12
abbrev k_ratchetref08_PutBlockType : FuncId := 13
abbrev k_entry_PutRecType : FuncId := 14
abbrev k_ratchetref08_PutRecType : FuncId := 15
abbrev k_entry_PutLimits : FuncId := 16
abbrev k_ratchetref08_PutLimits : FuncId := 17
abbrev k_entry_PutTag : FuncId := 18
abbrev k_ratchetref08_PutTag : FuncId := 19
abbrev k_ratchetlaw08_awake : FuncId := 20
abbrev k_entry_write : FuncId := 41
abbrev k_entry_PutHeapType_1 : FuncId := 42
abbrev k_entry_pen_heap : FuncId := 43
abbrev k_ratchetref08_writing_heap : FuncId := 44
abbrev k_ratchetref08_writing_done : FuncId := 45
abbrev k_entry_PutValType_1 : FuncId := 46
abbrev k_entry_pen_val : FuncId := 47
abbrev k_ratchetref08_writing_val : FuncId := 48
abbrev k_entry_PutBlockType_1 : FuncId := 49
abbrev k_entry_pen_must : FuncId := 50
abbrev k_entry_fits : FuncId := 51
abbrev k_leb_PutS : FuncId := 52
abbrev k_entry_pen_byte : FuncId := 53
abbrev k_ratchetref08_writing_must : FuncId := 54
abbrev k_ratchetref01_PutS : FuncId := 55
abbrev k_entry_PutRecType_1 : FuncId := 56
abbrev k_entry_pen_sub : FuncId := 57
abbrev k_entry_each_api_SubType : FuncId := 58
abbrev k_ratchetref08_writing_many : FuncId := 59
abbrev k_ratchetref08_writing_sub : FuncId := 60
abbrev k_entry_PutLimits_1 : FuncId := 61
abbrev k_entry_pen_limits : FuncId := 62
abbrev k_ratchetref08_writing_limits : FuncId := 63
abbrev k_entry_PutTag_1 : FuncId := 64
abbrev k_entry_pen_tag : FuncId := 65
abbrev k_ratchetref08_writing_index : FuncId := 66
abbrev k_entry_write_1 : FuncId := 96
abbrev k_entry_abstract : FuncId := 97
abbrev k_ratchetref08_code : FuncId := 98
abbrev k_entry_pen_comp : FuncId := 99
abbrev k_entry_each_int : FuncId := 100
abbrev k_entry_pen_index : FuncId := 101
abbrev k_entry_pen_u : FuncId := 102
abbrev k_ratchetref08_writing_u : FuncId := 103
abbrev k_ratchetref08_writing_comp : FuncId := 104
abbrev k_ratchetref08_abstract : FuncId := 110
abbrev k_entry_pen_vals : FuncId := 132
abbrev k_entry_each_api_Field : FuncId := 133
abbrev k_entry_pen_field : FuncId := 134
abbrev k_leb_PutU : FuncId := 135
abbrev k_ratchetref01_PutU : FuncId := 136
abbrev k_ratchetref08_writing_vals : FuncId := 137
abbrev k_ratchetref08_writing_field : FuncId := 138
abbrev k_entry_each_api_ValType : FuncId := 143
abbrev k_entry_pen_flag : FuncId := 144
abbrev k_ratchetref08_writing_flag : FuncId := 145
abbrev y_entry_fault : TypeId := 148
end Go.Proofs.Ytofbbijagbpicaa.Pi.Q
namespace Go.Proofs.Ytofbbijagbpicaa.Pi.Q
open Go Go.Proofs.Ytofbbijagbpicaa.Pi
set_option linter.unusedVariables false
set_option maxRecDepth 100000
theorem ratchetlaw08_EntryWrites_eq (a0 a1 a2 a3 a4 : PV) : C k_ratchetlaw08_EntryWrites [a0, a1, a2, a3, a4] =
 trunc (M.bind (bx 3 a0) fun t5_0 =>
 M.bind (bx 4 a1) fun t6_1 =>
 M.bind (bx 2 a2) fun t7_2 =>
 M.bind (bx 4 a3) fun t8_3 =>
 M.bind (fa 2 t5_0) fun t16_4 =>
 M.bind (ld none false t16_4) fun t17_5 =>
 M.bind (C k_entry_PutHeapType [(strip t17_5)]) fun t18_6 =>
 M.bind (ex 0 (strip t18_6)) fun t19_7 =>
 M.bind (ex 1 (tupDrop 0 (strip t18_6))) fun t20_8 =>
 M.bind (fa 2 t5_0) fun t22_9 =>
 M.bind (ld none false t22_9) fun t23_10 =>
 M.bind (C k_ratchetref08_PutHeapType [(strip t23_10)]) fun t24_11 =>
 M.bind (ex 0 (strip t24_11)) fun t25_12 =>
 M.bind (ex 1 (tupDrop 0 (strip t24_11))) fun t26_13 =>
 M.bind (C k_ratchetlaw08_same [(strip (strip t19_7)), (strip (strip t20_8)), (strip (strip t25_12)), (strip (strip t26_13))]) fun t31_14 =>
 M.bind (un .not t31_14) fun t32_15 =>
 condM t32_15
 (M.pure (.bool false))
 (M.bind (ld (some 3) false t5_0) fun t34_16 =>
 M.bind (C k_entry_PutValType [(strip t34_16)]) fun t35_17 =>
 M.bind (ex 0 (strip t35_17)) fun t36_18 =>
 M.bind (ex 1 (tupDrop 0 (strip t35_17))) fun t37_19 =>
 M.bind (ld (some 3) false t5_0) fun t39_20 =>
 M.bind (C k_ratchetref08_PutValType [(strip t39_20)]) fun t40_21 =>
 M.bind (ex 0 (strip t40_21)) fun t41_22 =>
 M.bind (ex 1 (tupDrop 0 (strip t40_21))) fun t42_23 =>
 M.bind (C k_ratchetlaw08_same [(strip (strip t36_18)), (strip (strip t37_19)), (strip (strip t41_22)), (strip (strip t42_23))]) fun t47_24 =>
 M.bind (un .not t47_24) fun t48_25 =>
 condM t48_25
 (M.pure (.bool false))
 (M.bind (ld (some 4) false t6_1) fun t50_26 =>
 M.bind (C k_entry_PutBlockType [(strip t50_26)]) fun t51_27 =>
 M.bind (ex 0 (strip t51_27)) fun t52_28 =>
 M.bind (ex 1 (tupDrop 0 (strip t51_27))) fun t53_29 =>
 M.bind (ld (some 4) false t6_1) fun t55_30 =>
 M.bind (C k_ratchetref08_PutBlockType [(strip t55_30)]) fun t56_31 =>
 M.bind (ex 0 (strip t56_31)) fun t57_32 =>
 M.bind (ex 1 (tupDrop 0 (strip t56_31))) fun t58_33 =>
 M.bind (C k_ratchetlaw08_same [(strip (strip t52_28)), (strip (strip t53_29)), (strip (strip t57_32)), (strip (strip t58_33))]) fun t63_34 =>
 M.bind (un .not t63_34) fun t64_35 =>
 condM t64_35
 (M.pure (.bool false))
 (M.bind (ld (some 2) false t7_2) fun t66_36 =>
 M.bind (C k_entry_PutRecType [(strip t66_36)]) fun t67_37 =>
 M.bind (ex 0 (strip t67_37)) fun t68_38 =>
 M.bind (ex 1 (tupDrop 0 (strip t67_37))) fun t69_39 =>
 M.bind (ld (some 2) false t7_2) fun t71_40 =>
 M.bind (C k_ratchetref08_PutRecType [(strip t71_40)]) fun t72_41 =>
 M.bind (ex 0 (strip t72_41)) fun t73_42 =>
 M.bind (ex 1 (tupDrop 0 (strip t72_41))) fun t74_43 =>
 M.bind (C k_ratchetlaw08_same [(strip (strip t68_38)), (strip (strip t69_39)), (strip (strip t73_42)), (strip (strip t74_43))]) fun t79_44 =>
 M.bind (un .not t79_44) fun t80_45 =>
 condM t80_45
 (M.pure (.bool false))
 (M.bind (ld (some 4) false t8_3) fun t82_46 =>
 M.bind (C k_entry_PutLimits [(strip t82_46)]) fun t83_47 =>
 M.bind (ex 0 (strip t83_47)) fun t84_48 =>
 M.bind (ex 1 (tupDrop 0 (strip t83_47))) fun t85_49 =>
 M.bind (ld (some 4) false t8_3) fun t87_50 =>
 M.bind (C k_ratchetref08_PutLimits [(strip t87_50)]) fun t88_51 =>
 M.bind (ex 0 (strip t88_51)) fun t89_52 =>
 M.bind (ex 1 (tupDrop 0 (strip t88_51))) fun t90_53 =>
 M.bind (C k_ratchetlaw08_same [(strip (strip t84_48)), (strip (strip t85_49)), (strip (strip t89_52)), (strip (strip t90_53))]) fun t95_54 =>
 M.bind (un .not t95_54) fun t96_55 =>
 condM t96_55
 (M.pure (.bool false))
 (M.bind (C k_entry_PutTag [(strip (strip a4))]) fun t99_56 =>
 M.bind (ex 0 (strip t99_56)) fun t100_57 =>
 M.bind (ex 1 (tupDrop 0 (strip t99_56))) fun t101_58 =>
 M.bind (C k_ratchetref08_PutTag [(strip (strip a4))]) fun t104_59 =>
 M.bind (ex 0 (strip t104_59)) fun t105_60 =>
 M.bind (ex 1 (tupDrop 0 (strip t104_59))) fun t106_61 =>
 M.bind (C k_ratchetlaw08_same [(strip (strip t100_57)), (strip (strip t101_58)), (strip (strip t105_60)), (strip (strip t106_61))]) fun t111_62 =>
 M.bind (gd (strip t111_62) true (C k_ratchetlaw08_awake [])) fun t113_63 =>
 M.bind (pick (strip t111_62) t113_63 (.bool false)) fun t114_64 =>
 resT t114_64 (M.pure t114_64))))))) := by
 rw [C, callW_eq _ _ rfl]; kernel_rfl
theorem entry_PutHeapType_eq (a0 : PV) : C k_entry_PutHeapType [a0] =
 trunc (M.bind (bx 1 a0) fun t1_0 =>
 M.bind (mf k_entry_PutHeapType_1 [] [t1_0]) fun t4_1 =>
 M.bind (C k_entry_write [(strip t4_1)]) fun t5_2 =>
 M.bind (ex 0 t5_2) fun t6_3 =>
 M.bind (ex 1 (tupDrop 0 t5_2)) fun t7_4 =>
 resT t6_3 (resT t7_4 (M.pure (.tup [t6_3, t7_4])))) := by
 rw [C, callW_eq _ _ rfl]; kernel_rfl
theorem ratchetref08_PutHeapType_eq (a0 : PV) : C k_ratchetref08_PutHeapType [a0] =
 trunc (M.bind (bd [(.slice false true 0 []), (.int .i64 0)] []) fun t5_0 =>
 M.bind (bx 2 t5_0) fun t6_1 =>
 M.bind (C k_ratchetref08_writing_heap [(strip (strip t6_1)), (strip (strip a0))]) fun t9_2 =>
 M.bind (C k_ratchetref08_writing_done [(strip (strip t6_1))]) fun t11_3 =>
 M.bind (ex 0 t11_3) fun t12_4 =>
 M.bind (ex 1 (tupDrop 0 t11_3)) fun t13_5 =>
 resT t12_4 (resT t13_5 (M.pure (.tup [t12_4, t13_5])))) := by
 rw [C, callW_eq _ _ rfl]; kernel_rfl
theorem ratchetlaw08_same_eq (a0 a1 a2 a3 : PV) : C k_ratchetlaw08_same [a0, a1, a2, a3] =
 trunc (M.bind (cv .bytesToStr true (strip a0)) fun t10_0 =>
 M.bind (cv .bytesToStr true (strip a2)) fun t12_1 =>
 M.bind (bi .eql .none t10_0 t12_1) fun t13_2 =>
 M.bind (gd (strip t13_2) true (M.pure (strip a1))) fun t15_3 =>
 M.bind (gd (strip t13_2) true (M.pure (strip a3))) fun t16_4 =>
 M.bind (gd (strip t13_2) true (bi .eql .none t15_3 t16_4)) fun t17_5 =>
 M.bind (pick (strip t13_2) t17_5 (.bool false)) fun t18_6 =>
 M.bind (gd (strip t18_6) true (M.pure (strip a1))) fun t20_7 =>
 M.bind (gd (strip t18_6) true (bi .eql .none t20_7 (.int .i64 0))) fun t21_8 =>
 M.bind (gd (strip t18_6) true (M.pure (strip t21_8))) fun t22_9 =>
 M.bind (gd t22_9 false (M.pure (strip a0))) fun t23_10 =>
 M.bind (gd t22_9 false (lnL t23_10)) fun t24_11 =>
 M.bind (gd t22_9 false (bi .eql .none t24_11 (.int .i64 0))) fun t25_12 =>
 M.bind (gd (strip t18_6) true (pick t22_9 (.bool true) t25_12)) fun t26_13 =>
 M.bind (pick (strip t18_6) t26_13 (.bool false)) fun t27_14 =>
 resT t27_14 (M.pure t27_14)) := by
 rw [C, callW_eq _ _ rfl]; kernel_rfl
theorem entry_PutValType_eq (a0 : PV) : C k_entry_PutValType [a0] =
 trunc (M.bind (bx 3 a0) fun t1_0 =>
 M.bind (mf k_entry_PutValType_1 [] [t1_0]) fun t4_1 =>
 M.bind (C k_entry_write [(strip t4_1)]) fun t5_2 =>
 M.bind (ex 0 t5_2) fun t6_3 =>
 M.bind (ex 1 (tupDrop 0 t5_2)) fun t7_4 =>
 resT t6_3 (resT t7_4 (M.pure (.tup [t6_3, t7_4])))) := by
 rw [C, callW_eq _ _ rfl]; kernel_rfl
theorem ratchetref08_PutValType_eq (a0 : PV) : C k_ratchetref08_PutValType [a0] =
 trunc (M.bind (bx 3 a0) fun t1_0 =>
 M.bind (bd [(.slice false true 0 []), (.int .i64 0)] []) fun t5_1 =>
 M.bind (bx 2 t5_1) fun t6_2 =>
 M.bind (ld (some 3) false t1_0) fun t8_3 =>
 M.bind (C k_ratchetref08_writing_val [(strip (strip t6_2)), (strip t8_3), (.bool false)]) fun t9_4 =>
 M.bind (C k_ratchetref08_writing_done [(strip (strip t6_2))]) fun t11_5 =>
 M.bind (ex 0 t11_5) fun t12_6 =>
 M.bind (ex 1 (tupDrop 0 t11_5)) fun t13_7 =>
 resT t12_6 (resT t13_7 (M.pure (.tup [t12_6, t13_7])))) := by
 rw [C, callW_eq _ _ rfl]; kernel_rfl
theorem entry_PutBlockType_eq (a0 : PV) : C k_entry_PutBlockType [a0] =
 trunc (M.bind (bx 4 a0) fun t1_0 =>
 M.bind (mf k_entry_PutBlockType_1 [] [t1_0]) fun t4_1 =>
 M.bind (C k_entry_write [(strip t4_1)]) fun t5_2 =>
 M.bind (ex 0 t5_2) fun t6_3 =>
 M.bind (ex 1 (tupDrop 0 t5_2)) fun t7_4 =>
 resT t6_3 (resT t7_4 (M.pure (.tup [t6_3, t7_4])))) := by
 rw [C, callW_eq _ _ rfl]; kernel_rfl
noncomputable def p_ratchetref08_PutBlockType_1111 (v2 v3 v4 : PV) : M PV := atP P X k_ratchetref08_PutBlockType [1, 1, 1, 1] (mkEnv 50 0 [(2, v2), (3, v3), (4, v4)])
theorem p_ratchetref08_PutBlockType_1111_eq (v2 v3 v4 : PV) : p_ratchetref08_PutBlockType_1111 v2 v3 v4 =
 M.bind (C k_ratchetref08_writing_done [(strip (strip v4))]) fun t47_0 =>
 M.bind (ex 0 t47_0) fun t48_1 =>
 M.bind (ex 1 (tupDrop 0 t47_0)) fun t49_2 =>
 resT t48_1 (resT t49_2 (M.pure (.tup [t48_1, t49_2]))) :=
 (atP_step P X _ _ _).trans (by kernel_rfl)
theorem ratchetref08_PutBlockType_eq (a0 : PV) : C k_ratchetref08_PutBlockType [a0] =
 trunc (M.bind (bx 4 a0) fun t1_0 =>
 M.bind (bd [(.slice false true 0 []), (.int .i64 0)] []) fun t6_1 =>
 M.bind (bx 2 t6_1) fun t7_2 =>
 M.bind (fa 1 t1_0) fun t8_3 =>
 M.bind (ld (some 3) false t8_3) fun t9_4 =>
 M.bind (bd [(.int .i64 0), (.bool false), (.int .i64 0)] []) fun t10_5 =>
 M.bind (bi .eql (.struct [.int, .bool, .int]) t9_4 t10_5) fun t11_6 =>
 M.bind (fa 0 t1_0) fun t17_7 =>
 M.bind (ld none false t17_7) fun t18_8 =>
 M.bind (bi .geq .none t18_8 (.int .i64 0)) fun t19_9 =>
 condM t19_9
 (M.bind (gd (strip (strip t11_6)) true (fa 0 t1_0)) fun t23_10 =>
 M.bind (gd (strip (strip t11_6)) true (ld none false t23_10)) fun t24_11 =>
 M.bind (gd (strip (strip t11_6)) true (bi .lss .none t24_11 (.int .i64 2147483648))) fun t25_12 =>
 M.bind (pick (strip (strip t11_6)) t25_12 (.bool false)) fun t26_13 =>
 M.bind (C k_ratchetref08_writing_must [(strip (strip t7_2)), (strip t26_13), (.int .i64 4)]) fun t27_14 =>
 M.bind (fa 0 t1_0) fun t29_15 =>
 M.bind (ld none false t29_15) fun t30_16 =>
 M.bind (C k_ratchetref01_PutS [(strip t30_16)]) fun t31_17 =>
 M.bind (nc P (strip t7_2)) fun t32_18 =>
 M.bind (fa 0 t32_18) fun t33_19 =>
 M.bind (st 1 true t33_19 t31_17) fun _ =>
 p_ratchetref08_PutBlockType_1111 (.slice false true 0 []) (.int .i64 0) t7_2)
 (M.bind (fa 0 t1_0) fun t35_21 =>
 M.bind (ld none false t35_21) fun t36_22 =>
 M.bind (bi .lss .none t36_22 (.int .i64 (-1))) fun t37_23 =>
 condM t37_23
 (M.bind (C k_ratchetref08_writing_must [(strip (strip t7_2)), (.bool false), (.int .i64 4)]) fun t39_24 =>
 p_ratchetref08_PutBlockType_1111 (.slice false true 0 []) (.int .i64 0) t7_2)
 (condM t11_6
 (M.bind (bs true none [(.int .u8 64)]) fun t43_25 =>
 M.bind (nc P (strip t7_2)) fun t44_26 =>
 M.bind (fa 0 t44_26) fun t45_27 =>
 M.bind (st 1 true t45_27 t43_25) fun _ =>
 p_ratchetref08_PutBlockType_1111 (.slice false true 0 []) (.int .i64 0) t7_2)
 (M.bind (fa 1 t1_0) fun t13_29 =>
 M.bind (ld (some 3) false t13_29) fun t14_30 =>
 M.bind (C k_ratchetref08_writing_val [(strip (strip t7_2)), (strip t14_30), (.bool false)]) fun t15_31 =>
 p_ratchetref08_PutBlockType_1111 (.slice false true 0 []) (.int .i64 0) t7_2)))) := by
 rw [C, callW_eq _ _ rfl]; kernel_rfl
theorem entry_PutRecType_eq (a0 : PV) : C k_entry_PutRecType [a0] =
 trunc (M.bind (bx 2 a0) fun t1_0 =>
 M.bind (mf k_entry_PutRecType_1 [] [t1_0]) fun t4_1 =>
 M.bind (C k_entry_write [(strip t4_1)]) fun t5_2 =>
 M.bind (ex 0 t5_2) fun t6_3 =>
 M.bind (ex 1 (tupDrop 0 t5_2)) fun t7_4 =>
 resT t6_3 (resT t7_4 (M.pure (.tup [t6_3, t7_4])))) := by
 rw [C, callW_eq _ _ rfl]; kernel_rfl
noncomputable def p_ratchetref08_PutRecType_111 (v1 v2 v3 v4 : PV) : M PV := atP P X k_ratchetref08_PutRecType [1, 1, 1] (mkEnv 44 0 [(1, v1), (2, v2), (3, v3), (4, v4)])
noncomputable def p_ratchetref08_PutRecType_111010 (v1 v2 v3 v4 v5 : PV) : M PV := atP P X k_ratchetref08_PutRecType [1, 1, 1, 0, 1, 0] (mkEnv 44 0 [(1, v1), (2, v2), (3, v3), (4, v4), (5, v5)])
theorem p_ratchetref08_PutRecType_111_eq (v1 v2 v3 v4 : PV) : p_ratchetref08_PutRecType_111 v1 v2 v3 v4 =
 p_ratchetref08_PutRecType_111010 v1 v2 v3 v4 (.int .i64 0) :=
 (atP_step P X _ _ _).trans (by kernel_rfl)
theorem p_ratchetref08_PutRecType_111010_eq (v1 v2 v3 v4 v5 : PV) : p_ratchetref08_PutRecType_111010 v1 v2 v3 v4 v5 =
 M.bind (fa 0 v1) fun t27_0 =>
 M.bind (ld none false t27_0) fun t28_1 =>
 M.bind (lnL t28_1) fun t29_2 =>
 M.bind (bi .lss .none (strip v5) t29_2) fun t30_3 =>
 condM t30_3
 (M.bind (fa 0 v1) fun t34_4 =>
 M.bind (ld none false t34_4) fun t35_5 =>
 M.bind (iaS 6 t35_5 (strip v5)) fun t37_6 =>
 M.bind (ld (some 6) false t37_6) fun t38_7 =>
 M.bind (C k_ratchetref08_writing_sub [(strip (strip v4)), (strip t38_7)]) fun t39_8 =>
 M.bind (bi .add .none (strip v5) (.int .i64 1)) fun t32_9 =>
 p_ratchetref08_PutRecType_111010 v1 v2 v3 v4 t32_9)
 (M.bind (C k_ratchetref08_writing_done [(strip (strip v4))]) fun t41_10 =>
 M.bind (ex 0 t41_10) fun t42_11 =>
 M.bind (ex 1 (tupDrop 0 t41_10)) fun t43_12 =>
 resT t42_11 (resT t43_12 (M.pure (.tup [t42_11, t43_12])))) :=
 (atP_step P X _ _ _).trans (by kernel_rfl)
theorem ratchetref08_PutRecType_eq (a0 : PV) : C k_ratchetref08_PutRecType [a0] =
 trunc (M.bind (bx 2 a0) fun t1_0 =>
 M.bind (bd [(.slice false true 0 []), (.int .i64 0)] []) fun t6_1 =>
 M.bind (bx 2 t6_1) fun t7_2 =>
 M.bind (fa 0 t1_0) fun t8_3 =>
 M.bind (ld none false t8_3) fun t9_4 =>
 M.bind (lnL t9_4) fun t10_5 =>
 M.bind (bi .neq .none t10_5 (.int .i64 1)) fun t11_6 =>
 condM t11_6
 (M.bind (nc P (strip t7_2)) fun t14_7 =>
 M.bind (fa 0 t14_7) fun t15_8 =>
 M.bind (ld none true t15_8) fun t16_9 =>
 M.bind (bs true none [(.int .u8 78)]) fun t17_10 =>
 M.bind (ap true 1 1 t16_9 t17_10) fun t18_11 =>
 M.bind (nc P (strip t7_2)) fun t19_12 =>
 M.bind (fa 0 t19_12) fun t20_13 =>
 M.bind (st 1 true t20_13 t18_11) fun _ =>
 M.bind (fa 0 t1_0) fun t22_15 =>
 M.bind (ld none false t22_15) fun t23_16 =>
 M.bind (lnL t23_16) fun t24_17 =>
 M.bind (C k_ratchetref08_writing_many [(strip (strip t7_2)), (strip t24_17), (.int .i64 10000)]) fun t25_18 =>
 p_ratchetref08_PutRecType_111 t1_0 (.slice false true 0 []) (.int .i64 0) t7_2)
 (p_ratchetref08_PutRecType_111 t1_0 (.slice false true 0 []) (.int .i64 0) t7_2)) := by
 rw [C, callW_eq _ _ rfl]; kernel_rfl
theorem entry_PutLimits_eq (a0 : PV) : C k_entry_PutLimits [a0] =
 trunc (M.bind (bx 4 a0) fun t1_0 =>
 M.bind (mf k_entry_PutLimits_1 [] [t1_0]) fun t4_1 =>
 M.bind (C k_entry_write [(strip t4_1)]) fun t5_2 =>
 M.bind (ex 0 t5_2) fun t6_3 =>
 M.bind (ex 1 (tupDrop 0 t5_2)) fun t7_4 =>
 resT t6_3 (resT t7_4 (M.pure (.tup [t6_3, t7_4])))) := by
 rw [C, callW_eq _ _ rfl]; kernel_rfl
theorem ratchetref08_PutLimits_eq (a0 : PV) : C k_ratchetref08_PutLimits [a0] =
 trunc (M.bind (bx 4 a0) fun t1_0 =>
 M.bind (bd [(.slice false true 0 []), (.int .i64 0)] []) fun t5_1 =>
 M.bind (bx 2 t5_1) fun t6_2 =>
 M.bind (ld (some 4) false t1_0) fun t8_3 =>
 M.bind (C k_ratchetref08_writing_limits [(strip (strip t6_2)), (strip t8_3)]) fun t9_4 =>
 M.bind (C k_ratchetref08_writing_done [(strip (strip t6_2))]) fun t11_5 =>
 M.bind (ex 0 t11_5) fun t12_6 =>
 M.bind (ex 1 (tupDrop 0 t11_5)) fun t13_7 =>
 resT t12_6 (resT t13_7 (M.pure (.tup [t12_6, t13_7])))) := by
 rw [C, callW_eq _ _ rfl]; kernel_rfl
theorem entry_PutTag_eq (a0 : PV) : C k_entry_PutTag [a0] =
 trunc (M.bind (bx 1 a0) fun t1_0 =>
 M.bind (mf k_entry_PutTag_1 [] [t1_0]) fun t4_1 =>
 M.bind (C k_entry_write [(strip t4_1)]) fun t5_2 =>
 M.bind (ex 0 t5_2) fun t6_3 =>
 M.bind (ex 1 (tupDrop 0 t5_2)) fun t7_4 =>
 resT t6_3 (resT t7_4 (M.pure (.tup [t6_3, t7_4])))) := by
 rw [C, callW_eq _ _ rfl]; kernel_rfl
theorem ratchetref08_PutTag_eq (a0 : PV) : C k_ratchetref08_PutTag [a0] =
 trunc (M.bind (bs true none [(.int .u8 0)]) fun t5_0 =>
 M.bind (bdO [(.slice false true 0 []), (.int .i64 0)] 0 1 t5_0) fun t6_1 =>
 M.bind (bxO 2 t6_1) fun t7_2 =>
 M.bind (C k_ratchetref08_writing_index [(strip (strip t7_2)), (strip (strip a0))]) fun t10_3 =>
 M.bind (C k_ratchetref08_writing_done [(strip (strip t7_2))]) fun t12_4 =>
 M.bind (ex 0 t12_4) fun t13_5 =>
 M.bind (ex 1 (tupDrop 0 t12_4)) fun t14_6 =>
 resT t13_5 (resT t14_6 (M.pure (.tup [t13_5, t14_6])))) := by
 rw [C, callW_eq _ _ rfl]; kernel_rfl
theorem ratchetlaw08_awake_eq : C k_ratchetlaw08_awake [] =
 trunc (M.bind (bd [(.int .i64 0), (.bool false), (.int .i64 0)] [(0, 1, (.int .i64 1))]) fun t4_0 =>
 M.bind (C k_entry_PutValType [(strip t4_0)]) fun t5_1 =>
 M.bind (ex 0 (strip t5_1)) fun t6_2 =>
 M.bind (ex 1 (tupDrop 0 (strip t5_1))) fun t7_3 =>
 M.bind (bi .eql .none (strip t7_3) (.int .i64 0)) fun t9_4 =>
 M.bind (gd (strip t9_4) true (M.pure (strip t6_2))) fun t11_5 =>
 M.bind (gd (strip t9_4) true (cv .bytesToStr true t11_5)) fun t12_6 =>
 M.bind (gd (strip t9_4) true (bi .eql .none t12_6 (.str ⟨#[127]⟩))) fun t13_7 =>
 M.bind (pick (strip t9_4) t13_7 (.bool false)) fun t14_8 =>
 resT t14_8 (M.pure t14_8)) := by
 rw [C, callW_eq _ _ rfl]; kernel_rfl
end Go.Proofs.Ytofbbijagbpicaa.Pi.Q
namespace Go.Proofs.Ytofbbijagbpicaa.Pi.Q
open Go Go.Proofs.Ytofbbijagbpicaa.Pi
set_option linter.unusedVariables false
set_option maxRecDepth 100000
theorem entry_write_eq (a0 : PV) : C k_entry_write [a0] =
 trunc (M.bind (al [(.slice false true 0 [])]) fun t2_0 =>
 M.bind (al [(.int .i64 0)]) fun t3_1 =>
 M.bind (mf k_entry_write_1 [] [t2_0, t3_1]) fun t5_2 =>
 guardM (isPtr t2_0 && isPtr t3_1) <| deferM CD t5_2 []
 (M.bind (bd [(.slice false true 0 [])] []) fun t6_3 =>
 M.bind (bx 1 t6_3) fun t7_4 =>
 M.bind (callV P C (strip a0) [(strip (strip t7_4))]) fun t10_5 =>
 M.bind (nc P (strip t7_4)) fun t12_6 =>
 M.bind (fa 0 t12_6) fun t13_7 =>
 M.bind (ld none true t13_7) fun t14_8 =>
 M.bind (st 1 true t2_0 t14_8) fun _ =>
 M.bind (st 1 false t3_1 (.int .i64 0)) fun _ =>
 M.bind (ld none true t2_0) fun t0_11 => guardM (!isTup t0_11) (M.bind (ld none true t3_1) fun t0_12 => guardM (!isTup t0_12) (M.pure (.tup [t0_11, t0_12]))))
 (M.bind (ld none true t2_0) fun t0_13 => guardM (!isTup t0_13) (M.bind (ld none true t3_1) fun t0_14 => guardM (!isTup t0_14) (M.pure (.tup [t0_13, t0_14]))))) := by
 rw [C, callW_eq _ _ rfl]; kernel_rfl
theorem entry_PutHeapType_1_eq (a0 a1 : PV) : C k_entry_PutHeapType_1 [a0, a1] =
 trunc (M.bind (ld none false a1) fun t4_0 =>
 M.bind (C k_entry_pen_heap [(strip (strip a0)), (strip t4_0)]) fun t5_1 =>
 M.pure (.tup [])) := by
 rw [C, callW_eq _ _ rfl]; kernel_rfl
noncomputable def p_entry_pen_heap_1010 (v0 v1 v22 v23 : PV) : M PV := atP P X k_entry_pen_heap [1, 0, 1, 0] (mkEnv 38 0 [(0, v0), (1, v1), (22, v22), (23, v23)])
theorem p_entry_pen_heap_1010_eq (v0 v1 v22 v23 : PV) : p_entry_pen_heap_1010 v0 v1 v22 v23 =
 M.bind (bi .lss .none v23 (.int .i64 12)) fun t24_0 =>
 condM t24_0
 (M.bind (ixA 12 1 none v22 (strip v23)) fun t26_1 =>
 M.bind (bi .eql .none (strip t26_1) (strip v1)) fun t29_2 =>
 condM t29_2
 (M.bind (cv (.int .u8) true (strip v23)) fun t32_3 =>
 M.bind (bi .add .none (.int .u8 105) t32_3) fun t33_4 =>
 M.bind (C k_entry_pen_byte [(strip (strip v0)), (strip t33_4)]) fun t34_5 =>
 M.pure (.tup []))
 (M.bind (bi .add .none (strip v23) (.int .i64 1)) fun t35_6 =>
 p_entry_pen_heap_1010 v0 v1 v22 (strip t35_6)))
 (M.bind (C k_entry_pen_must [(strip (strip v0)), (.bool false)]) fun t37_7 =>
 M.pure (.tup [])) :=
 (atP_step P X _ _ _).trans (by kernel_rfl)
theorem entry_pen_heap_eq (a0 a1 : PV) : C k_entry_pen_heap [a0, a1] =
 trunc (M.bind (bi .geq .none (strip a1) (.int .i64 0)) fun t7_0 =>
 condM t7_0
 (M.bind (C k_entry_fits [(strip (strip a1))]) fun t10_1 =>
 M.bind (C k_entry_pen_must [(strip (strip a0)), (strip t10_1)]) fun t11_2 =>
 chk
 (M.bind (noPan (M.pure (strip a0))) fun t12_14 =>
 M.bind (noPan (M.pure (strip a0))) fun t13_15 =>
 M.bind (noPan (nc P t13_15)) fun t14_16 =>
 M.bind (noPan (fa 0 t14_16)) fun t15_17 =>
 M.bind (noPan (M.pure (strip a1))) fun t17_18 =>
 M.bind (noPan (C k_leb_PutS [(strip t17_18)])) fun t18_19 =>
 M.bind (noPan (ld none true t15_17)) fun t16_20 =>
 M.bind (noPan (ap true 1 1 t16_20 t18_19)) fun t19_21 =>
 M.bind (noPan (nc P t12_14)) fun t20_22 =>
 M.bind (noPan (fa 0 t20_22)) fun t21_23 =>
 M.bind (noPan (st 1 true t21_23 t19_21)) fun _ =>
 M.pure [a0, a1, .undef, .undef, .undef, .undef, (strip a1), t7_0, (strip a0), (strip a1), t10_1, t11_2, t12_14, t13_15, t14_16, t15_17, (strip t16_20), t17_18, t18_19, (strip t19_21), t20_22, t21_23, .undef, .undef, .undef, .undef, .undef, .undef, .undef, .undef, .undef, .undef, .undef, .undef, .undef, .undef, .undef, .undef])
 (M.bind (noPan (M.pure (strip a0))) fun t12_3 =>
 M.bind (noPan (M.pure (strip a0))) fun t13_4 =>
 M.bind (noPan (nc P t13_4)) fun t14_5 =>
 M.bind (noPan (fa 0 t14_5)) fun t15_6 =>
 M.bind (noPan (M.pure (strip a1))) fun t17_7 =>
 M.bind (noPan (ld none true t15_6)) fun t16_8 =>
 M.bind (noPan (C k_leb_PutS [(strip t17_7)])) fun t18_9 =>
 M.bind (noPan (ap true 1 1 t16_8 t18_9)) fun t19_10 =>
 M.bind (noPan (nc P t12_3)) fun t20_11 =>
 M.bind (noPan (fa 0 t20_11)) fun t21_12 =>
 M.bind (noPan (st 1 true t21_12 t19_10)) fun _ =>
 M.pure [a0, a1, .undef, .undef, .undef, .undef, (strip a1), t7_0, (strip a0), (strip a1), t10_1, t11_2, t12_3, t13_4, t14_5, t15_6, (strip t16_8), t17_7, t18_9, (strip t19_10), t20_11, t21_12, .undef, .undef, .undef, .undef, .undef, .undef, .undef, .undef, .undef, .undef, .undef, .undef, .undef, .undef, .undef, .undef]) <|
 M.bind (noPan (M.pure (strip a0))) fun t12_25 =>
 M.bind (noPan (M.pure (strip a0))) fun t13_26 =>
 M.bind (noPan (nc P t13_26)) fun t14_27 =>
 M.bind (noPan (fa 0 t14_27)) fun t15_28 =>
 M.bind (noPan (M.pure (strip a1))) fun t17_29 =>
 M.bind (noPan (ld none true t15_28)) fun t16_30 =>
 M.bind (noPan (C k_leb_PutS [(strip t17_29)])) fun t18_31 =>
 M.bind (noPan (ap true 1 1 t16_30 t18_31)) fun t19_32 =>
 M.bind (noPan (nc P t12_25)) fun t20_33 =>
 M.bind (noPan (fa 0 t20_33)) fun t21_34 =>
 M.bind (noPan (st 1 true t21_34 t19_32)) fun _ =>
 M.pure (.tup []))
 (M.bind (C k_entry_abstract []) fun t22_36 =>
 p_entry_pen_heap_1010 a0 a1 t22_36 (.int .i64 0))) := by
 rw [C, callW_eq _ _ rfl]; kernel_rfl
theorem ratchetref08_writing_heap_eq (a0 a1 : PV) : C k_ratchetref08_writing_heap [a0, a1] =
 trunc (M.bind (bi .lss .none (strip a1) (.int .i64 0)) fun t5_0 =>
 condM t5_0
 (M.bind (bi .geq .none (strip a1) (.int .i64 (-12))) fun t8_1 =>
 M.bind (C k_ratchetref08_writing_must [(strip (strip a0)), (strip t8_1), (.int .i64 4)]) fun t9_2 =>
 chk
 (M.bind (noPan (M.pure (strip a0))) fun t10_15 =>
 M.bind (noPan (M.pure (strip a0))) fun t11_16 =>
 M.bind (noPan (nc P t11_16)) fun t12_17 =>
 M.bind (noPan (fa 0 t12_17)) fun t13_18 =>
 M.bind (noPan (M.pure (strip a1))) fun t15_19 =>
 M.bind (noPan (C k_ratchetref08_code [(strip t15_19)])) fun t16_20 =>
 M.bind (noPan (bs true none [t16_20])) fun t17_21 =>
 M.bind (noPan (ld none true t13_18)) fun t14_22 =>
 M.bind (noPan (ap true 1 1 t14_22 t17_21)) fun t18_23 =>
 M.bind (noPan (nc P t10_15)) fun t19_24 =>
 M.bind (noPan (fa 0 t19_24)) fun t20_25 =>
 M.bind (noPan (st 1 true t20_25 t18_23)) fun _ =>
 M.pure [a0, a1, .undef, .undef, (strip a1), t5_0, (strip a0), (strip a1), t8_1, t9_2, t10_15, t11_16, t12_17, t13_18, (strip t14_22), t15_19, t16_20, t17_21, (strip t18_23), t19_24, t20_25, .undef, .undef, .undef, .undef, .undef, .undef, .undef, .undef, .undef, .undef, .undef, .undef, .undef, .undef])
 (M.bind (noPan (M.pure (strip a0))) fun t10_3 =>
 M.bind (noPan (M.pure (strip a0))) fun t11_4 =>
 M.bind (noPan (nc P t11_4)) fun t12_5 =>
 M.bind (noPan (fa 0 t12_5)) fun t13_6 =>
 M.bind (noPan (M.pure (strip a1))) fun t15_7 =>
 M.bind (noPan (ld none true t13_6)) fun t14_8 =>
 M.bind (noPan (C k_ratchetref08_code [(strip t15_7)])) fun t16_9 =>
 M.bind (noPan (bs true none [t16_9])) fun t17_10 =>
 M.bind (noPan (ap true 1 1 t14_8 t17_10)) fun t18_11 =>
 M.bind (noPan (nc P t10_3)) fun t19_12 =>
 M.bind (noPan (fa 0 t19_12)) fun t20_13 =>
 M.bind (noPan (st 1 true t20_13 t18_11)) fun _ =>
 M.pure [a0, a1, .undef, .undef, (strip a1), t5_0, (strip a0), (strip a1), t8_1, t9_2, t10_3, t11_4, t12_5, t13_6, (strip t14_8), t15_7, t16_9, t17_10, (strip t18_11), t19_12, t20_13, .undef, .undef, .undef, .undef, .undef, .undef, .undef, .undef, .undef, .undef, .undef, .undef, .undef, .undef]) <|
 M.bind (noPan (M.pure (strip a0))) fun t10_27 =>
 M.bind (noPan (M.pure (strip a0))) fun t11_28 =>
 M.bind (noPan (nc P t11_28)) fun t12_29 =>
 M.bind (noPan (fa 0 t12_29)) fun t13_30 =>
 M.bind (noPan (M.pure (strip a1))) fun t15_31 =>
 M.bind (noPan (ld none true t13_30)) fun t14_32 =>
 M.bind (noPan (C k_ratchetref08_code [(strip t15_31)])) fun t16_33 =>
 M.bind (noPan (bs true none [t16_33])) fun t17_34 =>
 M.bind (noPan (ap true 1 1 t14_32 t17_34)) fun t18_35 =>
 M.bind (noPan (nc P t10_27)) fun t19_36 =>
 M.bind (noPan (fa 0 t19_36)) fun t20_37 =>
 M.bind (noPan (st 1 true t20_37 t18_35)) fun _ =>
 M.pure (.tup []))
 (M.bind (bi .lss .none (strip a1) (.int .i64 2147483648)) fun t23_39 =>
 M.bind (C k_ratchetref08_writing_must [(strip (strip a0)), (strip t23_39), (.int .i64 4)]) fun t24_40 =>
 chk
 (M.bind (noPan (M.pure (strip a0))) fun t25_52 =>
 M.bind (noPan (M.pure (strip a0))) fun t26_53 =>
 M.bind (noPan (nc P t26_53)) fun t27_54 =>
 M.bind (noPan (fa 0 t27_54)) fun t28_55 =>
 M.bind (noPan (M.pure (strip a1))) fun t30_56 =>
 M.bind (noPan (C k_ratchetref01_PutS [(strip t30_56)])) fun t31_57 =>
 M.bind (noPan (ld none true t28_55)) fun t29_58 =>
 M.bind (noPan (ap true 1 1 t29_58 t31_57)) fun t32_59 =>
 M.bind (noPan (nc P t25_52)) fun t33_60 =>
 M.bind (noPan (fa 0 t33_60)) fun t34_61 =>
 M.bind (noPan (st 1 true t34_61 t32_59)) fun _ =>
 M.pure [a0, a1, .undef, .undef, (strip a1), t5_0, .undef, .undef, .undef, .undef, .undef, .undef, .undef, .undef, .undef, .undef, .undef, .undef, .undef, .undef, .undef, (strip a0), (strip a1), t23_39, t24_40, t25_52, t26_53, t27_54, t28_55, (strip t29_58), t30_56, t31_57, (strip t32_59), t33_60, t34_61])
 (M.bind (noPan (M.pure (strip a0))) fun t25_41 =>
 M.bind (noPan (M.pure (strip a0))) fun t26_42 =>
 M.bind (noPan (nc P t26_42)) fun t27_43 =>
 M.bind (noPan (fa 0 t27_43)) fun t28_44 =>
 M.bind (noPan (M.pure (strip a1))) fun t30_45 =>
 M.bind (noPan (ld none true t28_44)) fun t29_46 =>
 M.bind (noPan (C k_ratchetref01_PutS [(strip t30_45)])) fun t31_47 =>
 M.bind (noPan (ap true 1 1 t29_46 t31_47)) fun t32_48 =>
 M.bind (noPan (nc P t25_41)) fun t33_49 =>
 M.bind (noPan (fa 0 t33_49)) fun t34_50 =>
 M.bind (noPan (st 1 true t34_50 t32_48)) fun _ =>
 M.pure [a0, a1, .undef, .undef, (strip a1), t5_0, .undef, .undef, .undef, .undef, .undef, .undef, .undef, .undef, .undef, .undef, .undef, .undef, .undef, .undef, .undef, (strip a0), (strip a1), t23_39, t24_40, t25_41, t26_42, t27_43, t28_44, (strip t29_46), t30_45, t31_47, (strip t32_48), t33_49, t34_50]) <|
 M.bind (noPan (M.pure (strip a0))) fun t25_63 =>
 M.bind (noPan (M.pure (strip a0))) fun t26_64 =>
 M.bind (noPan (nc P t26_64)) fun t27_65 =>
 M.bind (noPan (fa 0 t27_65)) fun t28_66 =>
 M.bind (noPan (M.pure (strip a1))) fun t30_67 =>
 M.bind (noPan (ld none true t28_66)) fun t29_68 =>
 M.bind (noPan (C k_ratchetref01_PutS [(strip t30_67)])) fun t31_69 =>
 M.bind (noPan (ap true 1 1 t29_68 t31_69)) fun t32_70 =>
 M.bind (noPan (nc P t25_63)) fun t33_71 =>
 M.bind (noPan (fa 0 t33_71)) fun t34_72 =>
 M.bind (noPan (st 1 true t34_72 t32_70)) fun _ =>
 M.pure (.tup []))) := by
 rw [C, callW_eq _ _ rfl]; kernel_rfl
theorem ratchetref08_writing_done_eq (a0 : PV) : C k_ratchetref08_writing_done [a0] =
 trunc (M.bind (nc P (strip a0)) fun t5_0 =>
 M.bind (fa 1 t5_0) fun t6_1 =>
 M.bind (ld none false t6_1) fun t7_2 =>
 M.bind (bi .neq .none t7_2 (.int .i64 0)) fun t8_3 =>
 condM t8_3
 (nb (nc P (strip a0)) fun t10_4 =>
 nb (fa 1 t10_4) fun t11_5 =>
 nb (ld none true t11_5) fun t12_6 =>
 resT t12_6 (M.pure (.tup [(.slice false true 0 []), t12_6])))
 (M.bind (nc P (strip a0)) fun t14_7 =>
 M.bind (fa 0 t14_7) fun t15_8 =>
 M.bind (ld none true t15_8) fun t16_9 =>
 resT t16_9 (M.pure (.tup [t16_9, (.int .i64 0)])))) := by
 rw [C, callW_eq _ _ rfl]; kernel_rfl
theorem entry_PutValType_1_eq (a0 a1 : PV) : C k_entry_PutValType_1 [a0, a1] =
 trunc (M.bind (ld (some 3) false a1) fun t4_0 =>
 M.bind (C k_entry_pen_val [(strip (strip a0)), (strip t4_0)]) fun t5_1 =>
 M.pure (.tup [])) := by
 rw [C, callW_eq _ _ rfl]; kernel_rfl
noncomputable def p_entry_pen_val_111 (v0 v3 : PV) : M PV := atP P X k_entry_pen_val [1, 1, 1] (mkEnv 49 0 [(0, v0), (3, v3)])
theorem p_entry_pen_val_111_eq (v0 v3 : PV) : p_entry_pen_val_111 v0 v3 =
 M.bind (fa 2 v3) fun t46_0 =>
 M.bind (ld none false t46_0) fun t47_1 =>
 M.bind (C k_entry_pen_heap [(strip (strip v0)), (strip t47_1)]) fun t48_2 =>
 M.pure (.tup []) :=
 (atP_step P X _ _ _).trans (by kernel_rfl)
theorem entry_pen_val_eq (a0 a1 : PV) : C k_entry_pen_val [a0, a1] =
 trunc (M.bind (bx 3 a1) fun t3_0 =>
 M.bind (fa 0 t3_0) fun t4_1 =>
 M.bind (ld none false t4_1) fun t5_2 =>
 M.bind (bi .neq .none t5_2 (.int .i64 5)) fun t6_3 =>
 condM t6_3
 (M.bind (fa 0 t3_0) fun t8_4 =>
 M.bind (ld none false t8_4) fun t9_5 =>
 M.bind (bi .geq .none t9_5 (.int .i64 1)) fun t10_6 =>
 M.bind (gd (strip t10_6) true (fa 0 t3_0)) fun t12_7 =>
 M.bind (gd (strip t10_6) true (ld none false t12_7)) fun t13_8 =>
 M.bind (gd (strip t10_6) true (bi .leq .none t13_8 (.int .i64 4))) fun t14_9 =>
 M.bind (pick (strip t10_6) t14_9 (.bool false)) fun t15_10 =>
 M.bind (gd (strip t15_10) true (fa 1 t3_0)) fun t17_11 =>
 M.bind (gd (strip t15_10) true (ld none false t17_11)) fun t18_12 =>
 M.bind (gd (strip t15_10) true (un .not t18_12)) fun t19_13 =>
 M.bind (pick (strip t15_10) t19_13 (.bool false)) fun t20_14 =>
 M.bind (gd (strip t20_14) true (fa 2 t3_0)) fun t22_15 =>
 M.bind (gd (strip t20_14) true (ld none false t22_15)) fun t23_16 =>
 M.bind (gd (strip t20_14) true (bi .eql .none t23_16 (.int .i64 0))) fun t24_17 =>
 M.bind (pick (strip t20_14) t24_17 (.bool false)) fun t25_18 =>
 M.bind (C k_entry_pen_must [(strip (strip a0)), (strip t25_18)]) fun t26_19 =>
 M.bind (fa 0 t3_0) fun t28_20 =>
 M.bind (ld none false t28_20) fun t29_21 =>
 M.bind (cv (.int .u8) true t29_21) fun t30_22 =>
 M.bind (bi .sub .none (.int .u8 128) t30_22) fun t31_23 =>
 M.bind (C k_entry_pen_byte [(strip (strip a0)), (strip t31_23)]) fun t32_24 =>
 M.pure (.tup []))
 (M.bind (fa 1 t3_0) fun t34_25 =>
 M.bind (ld none false t34_25) fun t35_26 =>
 M.bind (un .not t35_26) fun t36_27 =>
 condM t36_27
 (M.bind (C k_entry_pen_byte [(strip (strip a0)), (.int .u8 100)]) fun t38_28 =>
 p_entry_pen_val_111 a0 t3_0)
 (M.bind (fa 2 t3_0) fun t40_29 =>
 M.bind (ld none false t40_29) fun t41_30 =>
 M.bind (bi .geq .none t41_30 (.int .i64 0)) fun t42_31 =>
 condM t42_31
 (M.bind (C k_entry_pen_byte [(strip (strip a0)), (.int .u8 99)]) fun t44_32 =>
 p_entry_pen_val_111 a0 t3_0)
 (p_entry_pen_val_111 a0 t3_0)))) := by
 rw [C, callW_eq _ _ rfl]; kernel_rfl
noncomputable def p_ratchetref08_writing_val_1111 (v0 v4 : PV) : M PV := atP P X k_ratchetref08_writing_val [1, 1, 1, 1] (mkEnv 100 0 [(0, v0), (4, v4)])
noncomputable def p_ratchetref08_writing_val_10101111 (v0 v4 v7 : PV) : M PV := atP P X k_ratchetref08_writing_val [1, 0, 1, 0, 1, 1, 1, 1] (mkEnv 100 0 [(0, v0), (4, v4), (7, v7)])
noncomputable def p_ratchetref08_writing_val_101011111 (v0 v4 v7 : PV) : M PV := atP P X k_ratchetref08_writing_val [1, 0, 1, 0, 1, 1, 1, 1, 1] (mkEnv 100 0 [(0, v0), (4, v4), (7, v7)])
theorem p_ratchetref08_writing_val_1111_eq (v0 v4 : PV) : p_ratchetref08_writing_val_1111 v0 v4 =
 M.bind (fa 2 v4) fun t97_0 =>
 M.bind (ld none false t97_0) fun t98_1 =>
 M.bind (C k_ratchetref08_writing_heap [(strip (strip v0)), (strip t98_1)]) fun t99_2 =>
 M.pure (.tup []) :=
 (atP_step P X _ _ _).trans (by kernel_rfl)
theorem p_ratchetref08_writing_val_10101111_eq (v0 v4 v7 : PV) : p_ratchetref08_writing_val_10101111 v0 v4 v7 =
 M.bind (fa 0 v4) fun t51_0 =>
 M.bind (ld none false t51_0) fun t52_1 =>
 M.bind (bi .eql .none t52_1 (.int .i64 7)) fun t53_2 =>
 condM t53_2
 (p_ratchetref08_writing_val_101011111 v0 v4 (.int .i64 119))
 (p_ratchetref08_writing_val_101011111 v0 v4 v7) :=
 (atP_step P X _ _ _).trans (by kernel_rfl)
theorem p_ratchetref08_writing_val_101011111_eq (v0 v4 v7 : PV) : p_ratchetref08_writing_val_101011111 v0 v4 v7 =
 M.bind (nc P (strip v0)) fun t56_0 =>
 M.bind (fa 0 t56_0) fun t57_1 =>
 M.bind (ld none true t57_1) fun t58_2 =>
 M.bind (cv (.int .u8) true (strip v7)) fun t60_3 =>
 M.bind (bs true none [t60_3]) fun t61_4 =>
 M.bind (ap true 1 1 t58_2 t61_4) fun t62_5 =>
 M.bind (nc P (strip v0)) fun t63_6 =>
 M.bind (fa 0 t63_6) fun t64_7 =>
 M.bind (st 1 true t64_7 t62_5) fun _ =>
 M.pure (.tup []) :=
 (atP_step P X _ _ _).trans (by kernel_rfl)
theorem ratchetref08_writing_val_eq (a0 a1 a2 : PV) : C k_ratchetref08_writing_val [a0, a1, a2] =
 trunc (M.bind (bx 3 a1) fun t4_0 =>
 M.bind (fa 0 t4_0) fun t8_1 =>
 M.bind (ld none false t8_1) fun t9_2 =>
 M.bind (bi .neq .none t9_2 (.int .i64 5)) fun t10_3 =>
 condM t10_3
 (M.bind (fa 0 t4_0) fun t11_4 =>
 M.bind (ld none false t11_4) fun t12_5 =>
 M.bind (bi .eql .none t12_5 (.int .i64 6)) fun t13_6 =>
 M.bind (gd (strip t13_6) false (fa 0 t4_0)) fun t15_7 =>
 M.bind (gd (strip t13_6) false (ld none false t15_7)) fun t16_8 =>
 M.bind (gd (strip t13_6) false (bi .eql .none t16_8 (.int .i64 7))) fun t17_9 =>
 M.bind (pick (strip t13_6) (.bool true) t17_9) fun t18_10 =>
 M.bind (fa 0 t4_0) fun t20_11 =>
 M.bind (ld none false t20_11) fun t21_12 =>
 M.bind (bi .geq .none t21_12 (.int .i64 1)) fun t22_13 =>
 M.bind (gd (strip t22_13) true (fa 0 t4_0)) fun t24_14 =>
 M.bind (gd (strip t22_13) true (ld none false t24_14)) fun t25_15 =>
 M.bind (gd (strip t22_13) true (bi .leq .none t25_15 (.int .i64 4))) fun t26_16 =>
 M.bind (pick (strip t22_13) t26_16 (.bool false)) fun t27_17 =>
 M.bind (gd (strip t27_17) false (M.pure (strip a2))) fun t29_18 =>
 M.bind (gd (strip t27_17) false (M.pure (strip t29_18))) fun t30_19 =>
 M.bind (gd t30_19 true (M.pure (strip t18_10))) fun t31_20 =>
 M.bind (gd (strip t27_17) false (pick t30_19 t31_20 (.bool false))) fun t32_21 =>
 M.bind (pick (strip t27_17) (.bool true) t32_21) fun t33_22 =>
 M.bind (gd (strip t33_22) true (fa 1 t4_0)) fun t35_23 =>
 M.bind (gd (strip t33_22) true (ld none false t35_23)) fun t36_24 =>
 M.bind (gd (strip t33_22) true (un .not t36_24)) fun t37_25 =>
 M.bind (pick (strip t33_22) t37_25 (.bool false)) fun t38_26 =>
 M.bind (gd (strip t38_26) true (fa 2 t4_0)) fun t40_27 =>
 M.bind (gd (strip t38_26) true (ld none false t40_27)) fun t41_28 =>
 M.bind (gd (strip t38_26) true (bi .eql .none t41_28 (.int .i64 0))) fun t42_29 =>
 M.bind (pick (strip t38_26) t42_29 (.bool false)) fun t43_30 =>
 M.bind (C k_ratchetref08_writing_must [(strip (strip a0)), (strip t43_30), (.int .i64 4)]) fun t44_31 =>
 M.bind (fa 0 t4_0) fun t45_32 =>
 M.bind (ld none false t45_32) fun t46_33 =>
 M.bind (bi .sub .none (.int .i64 128) t46_33) fun t47_34 =>
 M.bind (fa 0 t4_0) fun t48_35 =>
 M.bind (ld none false t48_35) fun t49_36 =>
 M.bind (bi .eql .none t49_36 (.int .i64 6)) fun t50_37 =>
 condM t50_37
 (p_ratchetref08_writing_val_10101111 a0 t4_0 (.int .i64 120))
 (p_ratchetref08_writing_val_10101111 a0 t4_0 t47_34))
 (M.bind (fa 1 t4_0) fun t65_38 =>
 M.bind (ld none false t65_38) fun t66_39 =>
 M.bind (gd (strip t66_39) true (fa 2 t4_0)) fun t68_40 =>
 M.bind (gd (strip t66_39) true (ld none false t68_40)) fun t69_41 =>
 M.bind (gd (strip t66_39) true (bi .lss .none t69_41 (.int .i64 0))) fun t70_42 =>
 M.bind (pick (strip t66_39) t70_42 (.bool false)) fun t71_43 =>
 condM t71_43
 (M.bind (fa 2 t4_0) fun t73_44 =>
 M.bind (ld none false t73_44) fun t74_45 =>
 M.bind (C k_ratchetref08_writing_heap [(strip (strip a0)), (strip t74_45)]) fun t75_46 =>
 M.pure (.tup []))
 (M.bind (fa 1 t4_0) fun t76_47 =>
 M.bind (ld none false t76_47) fun t77_48 =>
 condM t77_48
 (M.bind (nc P (strip a0)) fun t80_49 =>
 M.bind (fa 0 t80_49) fun t81_50 =>
 M.bind (ld none true t81_50) fun t82_51 =>
 M.bind (bs true none [(.int .u8 99)]) fun t83_52 =>
 M.bind (ap true 1 1 t82_51 t83_52) fun t84_53 =>
 M.bind (nc P (strip a0)) fun t85_54 =>
 M.bind (fa 0 t85_54) fun t86_55 =>
 M.bind (st 1 true t86_55 t84_53) fun _ =>
 p_ratchetref08_writing_val_1111 a0 t4_0)
 (M.bind (nc P (strip a0)) fun t89_57 =>
 M.bind (fa 0 t89_57) fun t90_58 =>
 M.bind (ld none true t90_58) fun t91_59 =>
 M.bind (bs true none [(.int .u8 100)]) fun t92_60 =>
 M.bind (ap true 1 1 t91_59 t92_60) fun t93_61 =>
 M.bind (nc P (strip a0)) fun t94_62 =>
 M.bind (fa 0 t94_62) fun t95_63 =>
 M.bind (st 1 true t95_63 t93_61) fun _ =>
 p_ratchetref08_writing_val_1111 a0 t4_0)))) := by
 rw [C, callW_eq _ _ rfl]; kernel_rfl
theorem entry_PutBlockType_1_eq (a0 a1 : PV) : C k_entry_PutBlockType_1 [a0, a1] =
 trunc (M.bind (fa 1 a1) fun t4_0 =>
 M.bind (ld (some 3) false t4_0) fun t5_1 =>
 M.bind (bd [(.int .i64 0), (.bool false), (.int .i64 0)] []) fun t6_2 =>
 M.bind (bi .eql (.struct [.int, .bool, .int]) t5_1 t6_2) fun t7_3 =>
 M.bind (fa 0 a1) fun t13_4 =>
 M.bind (ld none false t13_4) fun t14_5 =>
 M.bind (bi .geq .none t14_5 (.int .i64 0)) fun t15_6 =>
 condM t15_6
 (M.bind (gd (strip (strip t7_3)) true (fa 0 a1)) fun t19_7 =>
 M.bind (gd (strip (strip t7_3)) true (ld none false t19_7)) fun t20_8 =>
 M.bind (gd (strip (strip t7_3)) true (C k_entry_fits [(strip t20_8)])) fun t21_9 =>
 M.bind (pick (strip (strip t7_3)) t21_9 (.bool false)) fun t22_10 =>
 M.bind (C k_entry_pen_must [(strip (strip a0)), (strip t22_10)]) fun t23_11 =>
 M.bind (fa 0 a1) fun t25_12 =>
 M.bind (ld none false t25_12) fun t26_13 =>
 M.bind (C k_leb_PutS [(strip t26_13)]) fun t27_14 =>
 M.bind (nc P (strip a0)) fun t28_15 =>
 M.bind (fa 0 t28_15) fun t29_16 =>
 M.bind (st 1 true t29_16 t27_14) fun _ =>
 M.pure (.tup []))
 (M.bind (fa 0 a1) fun t31_18 =>
 M.bind (ld none false t31_18) fun t32_19 =>
 M.bind (bi .lss .none t32_19 (.int .i64 (-1))) fun t33_20 =>
 condM t33_20
 (M.bind (C k_entry_pen_must [(strip (strip a0)), (.bool false)]) fun t35_21 =>
 M.pure (.tup []))
 (condM t7_3
 (M.bind (C k_entry_pen_byte [(strip (strip a0)), (.int .u8 64)]) fun t39_22 =>
 M.pure (.tup []))
 (M.bind (fa 1 a1) fun t9_23 =>
 M.bind (ld (some 3) false t9_23) fun t10_24 =>
 M.bind (C k_entry_pen_val [(strip (strip a0)), (strip t10_24)]) fun t11_25 =>
 M.pure (.tup []))))) := by
 rw [C, callW_eq _ _ rfl]; kernel_rfl
theorem entry_pen_must_eq (a0 a1 : PV) : C k_entry_pen_must [a0, a1] =
 trunc (M.bind (un .not (strip a1)) fun t5_0 =>
 condM t5_0
 (M.bind (bd [(.int .i64 0), (.int .i64 0)] [(0, 1, (.int .i64 0)), (1, 1, (.int .i64 4))]) fun t6_1 =>
 M.bind (mi y_entry_fault t6_1) fun t7_2 =>
 M.bind (pn t7_2) fun _ =>
 M.pure (.tup []))
 (M.pure (.tup []))) := by
 rw [C, callW_eq _ _ rfl]; kernel_rfl
theorem entry_fits_eq (a0 : PV) : C k_entry_fits [a0] =
 trunc (M.bind (bi .geq .none (strip a0) (.int .i64 0)) fun t4_0 =>
 M.bind (gd (strip t4_0) true (M.pure (strip a0))) fun t6_1 =>
 M.bind (gd (strip t4_0) true (bi .leq .none t6_1 (.int .i64 2147483647))) fun t7_2 =>
 M.bind (pick (strip t4_0) t7_2 (.bool false)) fun t8_3 =>
 resT t8_3 (M.pure t8_3)) := by
 rw [C, callW_eq _ _ rfl]; kernel_rfl
noncomputable def p_leb_PutS_1100 (v0 v2 v3 : PV) : M PV := atP P X k_leb_PutS [1, 1, 0, 0] (mkEnv 24 0 [(0, v0), (2, v2), (3, v3)])
theorem p_leb_PutS_1100_eq (v0 v2 v3 : PV) : p_leb_PutS_1100 v0 v2 v3 =
 M.bind (bi .lss .none (strip v0) (.int .i64 (-64))) fun t5_0 =>
 M.bind (gd (strip t5_0) false (M.pure (strip v0))) fun t7_1 =>
 M.bind (gd (strip t5_0) false (bi .gtr .none t7_1 (.int .i64 63))) fun t8_2 =>
 M.bind (pick (strip t5_0) (.bool true) t8_2) fun t9_3 =>
 condM t9_3
 (M.bind (cv (.int .u8) true (strip v0)) fun t14_4 =>
 M.bind (bi .or .none t14_4 (.int .u8 128)) fun t15_5 =>
 M.bind (bs true none [t15_5]) fun t16_6 =>
 M.bind (ap true 1 1 v3 t16_6) fun t17_7 =>
 M.bind (bi .shr .none (strip v0) (.int .u64 7)) fun t11_8 =>
 p_leb_PutS_1100 t11_8 v2 t17_7)
 (M.bind (cv (.int .u8) true (strip v0)) fun t20_9 =>
 M.bind (bi .and .none t20_9 (.int .u8 127)) fun t21_10 =>
 M.bind (bs true none [t21_10]) fun t22_11 =>
 M.bind (ap true 1 1 v3 t22_11) fun t23_12 =>
 resT t23_12 (M.pure t23_12)) :=
 (atP_step P X _ _ _).trans (by kernel_rfl)
theorem leb_PutS_eq (a0 : PV) : C k_leb_PutS [a0] =
 trunc (p_leb_PutS_1100 a0 (.slice false true 0 []) (.slice false true 0 [])) := by
 rw [C, callW_eq _ _ rfl]; kernel_rfl
theorem entry_pen_byte_eq (a0 a1 : PV) : C k_entry_pen_byte [a0, a1] =
 trunc (M.bind (nc P (strip a0)) fun t6_0 =>
 M.bind (fa 0 t6_0) fun t7_1 =>
 M.bind (ld none true t7_1) fun t8_2 =>
 M.bind (bs true none [(strip a1)]) fun t10_3 =>
 M.bind (ap true 1 1 t8_2 t10_3) fun t11_4 =>
 M.bind (nc P (strip a0)) fun t12_5 =>
 M.bind (fa 0 t12_5) fun t13_6 =>
 M.bind (st 1 true t13_6 t11_4) fun _ =>
 M.pure (.tup [])) := by
 rw [C, callW_eq _ _ rfl]; kernel_rfl
theorem ratchetref08_writing_must_eq (a0 a1 a2 : PV) : C k_ratchetref08_writing_must [a0, a1, a2] =
 trunc (M.bind (un .not (strip a1)) fun t7_0 =>
 M.bind (gd (strip t7_0) true (M.pure (strip a0))) fun t9_1 =>
 M.bind (gd (strip t7_0) true (nc P t9_1)) fun t10_2 =>
 M.bind (gd (strip t7_0) true (fa 1 t10_2)) fun t11_3 =>
 M.bind (gd (strip t7_0) true (ld none false t11_3)) fun t12_4 =>
 M.bind (gd (strip t7_0) true (bi .eql .none t12_4 (.int .i64 0))) fun t13_5 =>
 M.bind (pick (strip t7_0) t13_5 (.bool false)) fun t14_6 =>
 condM t14_6
 (M.bind (nc P (strip a0)) fun t17_7 =>
 M.bind (fa 1 t17_7) fun t18_8 =>
 M.bind (st 1 true t18_8 a2) fun _ =>
 M.pure (.tup []))
 (M.pure (.tup []))) := by
 rw [C, callW_eq _ _ rfl]; kernel_rfl
noncomputable def p_ratchetref01_PutS_1100 (v0 v2 v3 : PV) : M PV := atP P X k_ratchetref01_PutS [1, 1, 0, 0] (mkEnv 25 0 [(0, v0), (2, v2), (3, v3)])
theorem p_ratchetref01_PutS_1100_eq (v0 v2 v3 : PV) : p_ratchetref01_PutS_1100 v0 v2 v3 =
 M.bind (bi .lss .none (strip v0) (.int .i64 (-64))) fun t5_0 =>
 M.bind (gd (strip t5_0) false (M.pure (strip v0))) fun t7_1 =>
 M.bind (gd (strip t5_0) false (bi .gtr .none t7_1 (.int .i64 63))) fun t8_2 =>
 M.bind (pick (strip t5_0) (.bool true) t8_2) fun t9_3 =>
 condM t9_3
 (M.bind (bi .and .none (strip v0) (.int .i64 127)) fun t12_4 =>
 M.bind (cv (.int .u8) true t12_4) fun t13_5 =>
 M.bind (bi .add .none t13_5 (.int .u8 128)) fun t14_6 =>
 M.bind (bs true none [t14_6]) fun t15_7 =>
 M.bind (ap true 1 1 v3 t15_7) fun t16_8 =>
 M.bind (bi .shr .none (strip v0) (.int .u64 7)) fun t18_9 =>
 p_ratchetref01_PutS_1100 t18_9 v2 t16_8)
 (M.bind (bi .and .none (strip v0) (.int .i64 127)) fun t21_10 =>
 M.bind (cv (.int .u8) true t21_10) fun t22_11 =>
 M.bind (bs true none [t22_11]) fun t23_12 =>
 M.bind (ap true 1 1 v3 t23_12) fun t24_13 =>
 resT t24_13 (M.pure t24_13)) :=
 (atP_step P X _ _ _).trans (by kernel_rfl)
theorem ratchetref01_PutS_eq (a0 : PV) : C k_ratchetref01_PutS [a0] =
 trunc (p_ratchetref01_PutS_1100 a0 (.slice false true 0 []) (.slice false true 0 [])) := by
 rw [C, callW_eq _ _ rfl]; kernel_rfl
theorem entry_PutRecType_1_eq (a0 a1 : PV) : C k_entry_PutRecType_1 [a0, a1] =
 trunc (M.bind (fa 0 a1) fun t3_0 =>
 M.bind (ld none false t3_0) fun t4_1 =>
 M.bind (lnL t4_1) fun t5_2 =>
 M.bind (bi .eql .none t5_2 (.int .i64 1)) fun t6_3 =>
 condM t6_3
 (M.bind (fa 0 a1) fun t8_4 =>
 M.bind (ld none false t8_4) fun t9_5 =>
 M.bind (iaS 6 t9_5 (.int .i64 0)) fun t10_6 =>
 M.bind (ld (some 6) false t10_6) fun t11_7 =>
 M.bind (C k_entry_pen_sub [(strip (strip a0)), (strip t11_7)]) fun t12_8 =>
 M.pure (.tup []))
 (M.bind (C k_entry_pen_byte [(strip (strip a0)), (.int .u8 78)]) fun t14_9 =>
 M.bind (fa 0 a1) fun t16_10 =>
 M.bind (ld none false t16_10) fun t17_11 =>
 M.bind (mf k_entry_pen_sub [(strip a0)] []) fun t19_12 =>
 M.bind (C k_entry_each_api_SubType [(strip (strip a0)), (strip t17_11), (.int .i64 10000), (strip t19_12)]) fun t20_13 =>
 M.pure (.tup []))) := by
 rw [C, callW_eq _ _ rfl]; kernel_rfl
noncomputable def p_entry_pen_sub_11 (v0 v3 : PV) : M PV := atP P X k_entry_pen_sub [1, 1] (mkEnv 34 0 [(0, v0), (3, v3)])
theorem p_entry_pen_sub_11_eq (v0 v3 : PV) : p_entry_pen_sub_11 v0 v3 =
 M.bind (fa 1 v3) fun t25_0 =>
 M.bind (ld none false t25_0) fun t26_1 =>
 M.bind (mf k_entry_pen_index [(strip v0)] []) fun t28_2 =>
 M.bind (C k_entry_each_int [(strip (strip v0)), (strip t26_1), (.int .i64 1000), (strip t28_2)]) fun t29_3 =>
 M.bind (fa 2 v3) fun t31_4 =>
 M.bind (ld (some 4) false t31_4) fun t32_5 =>
 M.bind (C k_entry_pen_comp [(strip (strip v0)), (strip t32_5)]) fun t33_6 =>
 M.pure (.tup []) :=
 (atP_step P X _ _ _).trans (by kernel_rfl)
theorem entry_pen_sub_eq (a0 a1 : PV) : C k_entry_pen_sub [a0, a1] =
 trunc (M.bind (bx 6 a1) fun t3_0 =>
 M.bind (fa 0 t3_0) fun t7_1 =>
 M.bind (ld none false t7_1) fun t8_2 =>
 M.bind (gd (strip t8_2) true (fa 1 t3_0)) fun t10_3 =>
 M.bind (gd (strip t8_2) true (ld none false t10_3)) fun t11_4 =>
 M.bind (gd (strip t8_2) true (lnL t11_4)) fun t12_5 =>
 M.bind (gd (strip t8_2) true (bi .eql .none t12_5 (.int .i64 0))) fun t13_6 =>
 M.bind (pick (strip t8_2) t13_6 (.bool false)) fun t14_7 =>
 condM t14_7
 (M.bind (fa 2 t3_0) fun t16_8 =>
 M.bind (ld (some 4) false t16_8) fun t17_9 =>
 M.bind (C k_entry_pen_comp [(strip (strip a0)), (strip t17_9)]) fun t18_10 =>
 M.pure (.tup []))
 (M.bind (fa 0 t3_0) fun t20_11 =>
 M.bind (ld none true t20_11) fun t21_12 =>
 condM t21_12
 (M.bind (C k_entry_pen_byte [(strip (strip a0)), (.int .u8 79)]) fun t23_13 =>
 p_entry_pen_sub_11 a0 t3_0)
 (M.bind (C k_entry_pen_byte [(strip (strip a0)), (.int .u8 80)]) fun t5_14 =>
 p_entry_pen_sub_11 a0 t3_0))) := by
 rw [C, callW_eq _ _ rfl]; kernel_rfl
noncomputable def p_entry_each_api_SubType_1 (v0 v1 v3 : PV) : M PV := atP P X k_entry_each_api_SubType [1] (mkEnv 31 0 [(0, v0), (1, v1), (3, v3)])
noncomputable def p_entry_each_api_SubType_1110 (v3 v21 v22 v23 : PV) : M PV := atP P X k_entry_each_api_SubType [1, 1, 1, 0] (mkEnv 31 0 [(3, v3), (21, v21), (22, v22), (23, v23)])
theorem p_entry_each_api_SubType_1_eq (v0 v1 v3 : PV) : p_entry_each_api_SubType_1 v0 v1 v3 =
 M.bind (lnL (strip v1)) fun t18_0 =>
 M.bind (cv (.int .u64) true t18_0) fun t19_1 =>
 M.bind (C k_entry_pen_u [(strip (strip v0)), (strip t19_1)]) fun t20_2 =>
 M.bind (lnL (strip v1)) fun t22_3 =>
 p_entry_each_api_SubType_1110 v3 (strip v1) t22_3 (.int .i64 0) :=
 (atP_step P X _ _ _).trans (by kernel_rfl)
theorem p_entry_each_api_SubType_1110_eq (v3 v21 v22 v23 : PV) : p_entry_each_api_SubType_1110 v3 v21 v22 v23 =
 M.bind (bi .lss .none v23 v22) fun t24_0 =>
 condM t24_0
 (M.bind (iaS 6 v21 v23) fun t25_1 =>
 M.bind (ld (some 6) true t25_1) fun t26_2 =>
 M.bind (al [(.bool false), (.slice false true 0 []), (.int .i64 0), (.slice false true 0 []), (.slice false true 0 []), (.slice false true 0 [])]) fun t9_3 =>
 M.bind (st 6 true t9_3 t26_2) fun _ =>
 M.bind (ld (some 6) false t9_3) fun t28_5 =>
 M.bind (callV P C (strip v3) [(strip t28_5)]) fun t29_6 =>
 M.bind (bi .add .none v23 (.int .i64 1)) fun t30_7 =>
 p_entry_each_api_SubType_1110 v3 v21 v22 (strip t30_7))
 (M.pure (.tup [])) :=
 (atP_step P X _ _ _).trans (by kernel_rfl)
theorem entry_each_api_SubType_eq (a0 a1 a2 a3 : PV) : C k_entry_each_api_SubType [a0, a1, a2, a3] =
 trunc (M.bind (lnL (strip a1)) fun t11_0 =>
 M.bind (bi .gtr .none t11_0 (strip a2)) fun t13_1 =>
 condM t13_1
 (M.bind (bd [(.int .i64 0), (.int .i64 0)] [(0, 1, (.int .i64 0)), (1, 1, (.int .i64 2))]) fun t14_2 =>
 M.bind (mi y_entry_fault t14_2) fun t15_3 =>
 M.bind (pn t15_3) fun _ =>
 p_entry_each_api_SubType_1 a0 a1 a3)
 (p_entry_each_api_SubType_1 a0 a1 a3)) := by
 rw [C, callW_eq _ _ rfl]; kernel_rfl
theorem ratchetref08_writing_many_eq (a0 a1 a2 : PV) : C k_ratchetref08_writing_many [a0, a1, a2] =
 trunc (M.bind (bi .leq .none (strip a1) (strip a2)) fun t9_0 =>
 M.bind (C k_ratchetref08_writing_must [(strip (strip a0)), (strip t9_0), (.int .i64 2)]) fun t10_1 =>
 M.bind (cv (.int .u64) true (strip a1)) fun t13_2 =>
 M.bind (C k_ratchetref08_writing_u [(strip (strip a0)), (strip t13_2)]) fun t14_3 =>
 M.pure (.tup [])) := by
 rw [C, callW_eq _ _ rfl]; kernel_rfl
noncomputable def p_ratchetref08_writing_sub_11 (v0 v3 : PV) : M PV := atP P X k_ratchetref08_writing_sub [1, 1] (mkEnv 50 0 [(0, v0), (3, v3)])
noncomputable def p_ratchetref08_writing_sub_101011 (v0 v3 v4 : PV) : M PV := atP P X k_ratchetref08_writing_sub [1, 0, 1, 0, 1, 1] (mkEnv 50 0 [(0, v0), (3, v3), (4, v4)])
noncomputable def p_ratchetref08_writing_sub_1010111110 (v0 v3 v5 : PV) : M PV := atP P X k_ratchetref08_writing_sub [1, 0, 1, 0, 1, 1, 1, 1, 1, 0] (mkEnv 50 0 [(0, v0), (3, v3), (5, v5)])
theorem p_ratchetref08_writing_sub_11_eq (v0 v3 : PV) : p_ratchetref08_writing_sub_11 v0 v3 =
 M.bind (fa 2 v3) fun t47_0 =>
 M.bind (ld (some 4) false t47_0) fun t48_1 =>
 M.bind (C k_ratchetref08_writing_comp [(strip (strip v0)), (strip t48_1)]) fun t49_2 =>
 M.pure (.tup []) :=
 (atP_step P X _ _ _).trans (by kernel_rfl)
theorem p_ratchetref08_writing_sub_101011_eq (v0 v3 v4 : PV) : p_ratchetref08_writing_sub_101011 v0 v3 v4 =
 M.bind (nc P (strip v0)) fun t19_0 =>
 M.bind (fa 0 t19_0) fun t20_1 =>
 M.bind (ld none true t20_1) fun t21_2 =>
 M.bind (bs true none [(strip v4)]) fun t23_3 =>
 M.bind (ap true 1 1 t21_2 t23_3) fun t24_4 =>
 M.bind (nc P (strip v0)) fun t25_5 =>
 M.bind (fa 0 t25_5) fun t26_6 =>
 M.bind (st 1 true t26_6 t24_4) fun _ =>
 M.bind (fa 1 v3) fun t28_8 =>
 M.bind (ld none false t28_8) fun t29_9 =>
 M.bind (lnL t29_9) fun t30_10 =>
 M.bind (C k_ratchetref08_writing_many [(strip (strip v0)), (strip t30_10), (.int .i64 1000)]) fun t31_11 =>
 p_ratchetref08_writing_sub_1010111110 v0 v3 (.int .i64 0) :=
 (atP_step P X _ _ _).trans (by kernel_rfl)
theorem p_ratchetref08_writing_sub_1010111110_eq (v0 v3 v5 : PV) : p_ratchetref08_writing_sub_1010111110 v0 v3 v5 =
 M.bind (fa 1 v3) fun t33_0 =>
 M.bind (ld none false t33_0) fun t34_1 =>
 M.bind (lnL t34_1) fun t35_2 =>
 M.bind (bi .lss .none (strip v5) t35_2) fun t36_3 =>
 condM t36_3
 (M.bind (fa 1 v3) fun t40_4 =>
 M.bind (ld none false t40_4) fun t41_5 =>
 M.bind (iaS 1 t41_5 (strip v5)) fun t43_6 =>
 M.bind (ld none false t43_6) fun t44_7 =>
 M.bind (C k_ratchetref08_writing_index [(strip (strip v0)), (strip t44_7)]) fun t45_8 =>
 M.bind (bi .add .none (strip v5) (.int .i64 1)) fun t38_9 =>
 p_ratchetref08_writing_sub_1010111110 v0 v3 t38_9)
 (p_ratchetref08_writing_sub_11 v0 v3) :=
 (atP_step P X _ _ _).trans (by kernel_rfl)
theorem ratchetref08_writing_sub_eq (a0 a1 : PV) : C k_ratchetref08_writing_sub [a0, a1] =
 trunc (M.bind (bx 6 a1) fun t3_0 =>
 M.bind (fa 0 t3_0) fun t6_1 =>
 M.bind (ld none false t6_1) fun t7_2 =>
 M.bind (un .not t7_2) fun t8_3 =>
 M.bind (gd (strip t8_3) false (fa 1 t3_0)) fun t10_4 =>
 M.bind (gd (strip t8_3) false (ld none false t10_4)) fun t11_5 =>
 M.bind (gd (strip t8_3) false (lnL t11_5)) fun t12_6 =>
 M.bind (gd (strip t8_3) false (bi .gtr .none t12_6 (.int .i64 0))) fun t13_7 =>
 M.bind (pick (strip t8_3) (.bool true) t13_7) fun t14_8 =>
 condM t14_8
 (M.bind (fa 0 t3_0) fun t15_9 =>
 M.bind (ld none false t15_9) fun t16_10 =>
 condM t16_10
 (p_ratchetref08_writing_sub_101011 a0 t3_0 (.int .u8 79))
 (p_ratchetref08_writing_sub_101011 a0 t3_0 (.int .u8 80)))
 (p_ratchetref08_writing_sub_11 a0 t3_0)) := by
 rw [C, callW_eq _ _ rfl]; kernel_rfl
theorem entry_PutLimits_1_eq (a0 a1 : PV) : C k_entry_PutLimits_1 [a0, a1] =
 trunc (M.bind (ld (some 4) false a1) fun t4_0 =>
 M.bind (C k_entry_pen_limits [(strip (strip a0)), (strip t4_0)]) fun t5_1 =>
 M.pure (.tup [])) := by
 rw [C, callW_eq _ _ rfl]; kernel_rfl
noncomputable def p_entry_pen_limits_111 (v0 v3 v4 : PV) : M PV := atP P X k_entry_pen_limits [1, 1, 1] (mkEnv 51 0 [(0, v0), (3, v3), (4, v4)])
noncomputable def p_entry_pen_limits_1111 (v0 v3 v4 : PV) : M PV := atP P X k_entry_pen_limits [1, 1, 1, 1] (mkEnv 51 0 [(0, v0), (3, v3), (4, v4)])
theorem p_entry_pen_limits_111_eq (v0 v3 v4 : PV) : p_entry_pen_limits_111 v0 v3 v4 =
 M.bind (fa 0 v3) fun t7_0 =>
 M.bind (ld none false t7_0) fun t8_1 =>
 condM t8_1
 (M.bind (bi .add .none (strip v4) (.int .u8 4)) fun t10_2 =>
 p_entry_pen_limits_1111 v0 v3 t10_2)
 (p_entry_pen_limits_1111 v0 v3 v4) :=
 (atP_step P X _ _ _).trans (by kernel_rfl)
theorem p_entry_pen_limits_1111_eq (v0 v3 v4 : PV) : p_entry_pen_limits_1111 v0 v3 v4 =
 M.bind (C k_entry_pen_byte [(strip (strip v0)), (strip (strip v4))]) fun t13_0 =>
 M.bind (fa 0 v3) fun t15_1 =>
 M.bind (ld none false t15_1) fun t16_2 =>
 M.bind (gd (strip t16_2) false (fa 1 v3)) fun t18_3 =>
 M.bind (gd (strip t16_2) false (ld none false t18_3)) fun t19_4 =>
 M.bind (gd (strip t16_2) false (bi .lss .none t19_4 (.int .u64 4294967296))) fun t20_5 =>
 M.bind (pick (strip t16_2) (.bool true) t20_5) fun t21_6 =>
 M.bind (C k_entry_pen_must [(strip (strip v0)), (strip t21_6)]) fun t22_7 =>
 M.bind (fa 1 v3) fun t24_8 =>
 M.bind (ld none false t24_8) fun t25_9 =>
 M.bind (C k_entry_pen_u [(strip (strip v0)), (strip t25_9)]) fun t26_10 =>
 M.bind (fa 3 v3) fun t28_11 =>
 M.bind (ld none false t28_11) fun t29_12 =>
 M.bind (gd (strip t29_12) false (fa 2 v3)) fun t31_13 =>
 M.bind (gd (strip t29_12) false (ld none false t31_13)) fun t32_14 =>
 M.bind (gd (strip t29_12) false (bi .eql .none t32_14 (.int .u64 0))) fun t33_15 =>
 M.bind (pick (strip t29_12) (.bool true) t33_15) fun t34_16 =>
 M.bind (gd (strip t34_16) true (fa 0 v3)) fun t36_17 =>
 M.bind (gd (strip t34_16) true (ld none false t36_17)) fun t37_18 =>
 M.bind (gd (strip t34_16) true (M.pure (strip t37_18))) fun t38_19 =>
 M.bind (gd t38_19 false (fa 2 v3)) fun t39_20 =>
 M.bind (gd t38_19 false (ld none false t39_20)) fun t40_21 =>
 M.bind (gd t38_19 false (bi .lss .none t40_21 (.int .u64 4294967296))) fun t41_22 =>
 M.bind (gd (strip t34_16) true (pick t38_19 (.bool true) t41_22)) fun t42_23 =>
 M.bind (pick (strip t34_16) t42_23 (.bool false)) fun t43_24 =>
 M.bind (C k_entry_pen_must [(strip (strip v0)), (strip t43_24)]) fun t44_25 =>
 M.bind (fa 3 v3) fun t45_26 =>
 M.bind (ld none false t45_26) fun t46_27 =>
 condM t46_27
 (M.bind (fa 2 v3) fun t48_28 =>
 M.bind (ld none false t48_28) fun t49_29 =>
 M.bind (C k_entry_pen_u [(strip (strip v0)), (strip t49_29)]) fun t50_30 =>
 M.pure (.tup []))
 (M.pure (.tup [])) :=
 (atP_step P X _ _ _).trans (by kernel_rfl)
theorem entry_pen_limits_eq (a0 a1 : PV) : C k_entry_pen_limits [a0, a1] =
 trunc (M.bind (bx 4 a1) fun t3_0 =>
 M.bind (fa 3 t3_0) fun t5_1 =>
 M.bind (ld none false t5_1) fun t6_2 =>
 condM t6_2
 (p_entry_pen_limits_111 a0 t3_0 (.int .u8 1))
 (p_entry_pen_limits_111 a0 t3_0 (.int .u8 0))) := by
 rw [C, callW_eq _ _ rfl]; kernel_rfl
noncomputable def p_ratchetref08_writing_limits_111 (v0 v3 v4 : PV) : M PV := atP P X k_ratchetref08_writing_limits [1, 1, 1] (mkEnv 58 0 [(0, v0), (3, v3), (4, v4)])
noncomputable def p_ratchetref08_writing_limits_1111 (v0 v3 v4 : PV) : M PV := atP P X k_ratchetref08_writing_limits [1, 1, 1, 1] (mkEnv 58 0 [(0, v0), (3, v3), (4, v4)])
theorem p_ratchetref08_writing_limits_111_eq (v0 v3 v4 : PV) : p_ratchetref08_writing_limits_111 v0 v3 v4 =
 M.bind (fa 3 v3) fun t7_0 =>
 M.bind (ld none false t7_0) fun t8_1 =>
 condM t8_1
 (M.bind (bi .add .none (strip v4) (.int .u8 1)) fun t10_2 =>
 p_ratchetref08_writing_limits_1111 v0 v3 t10_2)
 (p_ratchetref08_writing_limits_1111 v0 v3 v4) :=
 (atP_step P X _ _ _).trans (by kernel_rfl)
theorem p_ratchetref08_writing_limits_1111_eq (v0 v3 v4 : PV) : p_ratchetref08_writing_limits_1111 v0 v3 v4 =
 M.bind (nc P (strip v0)) fun t13_0 =>
 M.bind (fa 0 t13_0) fun t14_1 =>
 M.bind (ld none true t14_1) fun t15_2 =>
 M.bind (bs true none [(strip v4)]) fun t17_3 =>
 M.bind (ap true 1 1 t15_2 t17_3) fun t18_4 =>
 M.bind (nc P (strip v0)) fun t19_5 =>
 M.bind (fa 0 t19_5) fun t20_6 =>
 M.bind (st 1 true t20_6 t18_4) fun _ =>
 M.bind (fa 0 v3) fun t22_8 =>
 M.bind (ld none false t22_8) fun t23_9 =>
 M.bind (gd (strip t23_9) false (fa 1 v3)) fun t25_10 =>
 M.bind (gd (strip t23_9) false (ld none false t25_10)) fun t26_11 =>
 M.bind (gd (strip t23_9) false (bi .lss .none t26_11 (.int .u64 4294967296))) fun t27_12 =>
 M.bind (pick (strip t23_9) (.bool true) t27_12) fun t28_13 =>
 M.bind (C k_ratchetref08_writing_must [(strip (strip v0)), (strip t28_13), (.int .i64 4)]) fun t29_14 =>
 M.bind (fa 1 v3) fun t31_15 =>
 M.bind (ld none false t31_15) fun t32_16 =>
 M.bind (C k_ratchetref08_writing_u [(strip (strip v0)), (strip t32_16)]) fun t33_17 =>
 M.bind (fa 0 v3) fun t35_18 =>
 M.bind (ld none false t35_18) fun t36_19 =>
 M.bind (gd (strip t36_19) false (fa 2 v3)) fun t38_20 =>
 M.bind (gd (strip t36_19) false (ld none false t38_20)) fun t39_21 =>
 M.bind (gd (strip t36_19) false (bi .lss .none t39_21 (.int .u64 4294967296))) fun t40_22 =>
 M.bind (pick (strip t36_19) (.bool true) t40_22) fun t41_23 =>
 M.bind (gd (strip t41_23) true (fa 3 v3)) fun t43_24 =>
 M.bind (gd (strip t41_23) true (ld none false t43_24)) fun t44_25 =>
 M.bind (gd (strip t41_23) true (M.pure (strip t44_25))) fun t45_26 =>
 M.bind (gd t45_26 false (fa 2 v3)) fun t46_27 =>
 M.bind (gd t45_26 false (ld none false t46_27)) fun t47_28 =>
 M.bind (gd t45_26 false (bi .eql .none t47_28 (.int .u64 0))) fun t48_29 =>
 M.bind (gd (strip t41_23) true (pick t45_26 (.bool true) t48_29)) fun t49_30 =>
 M.bind (pick (strip t41_23) t49_30 (.bool false)) fun t50_31 =>
 M.bind (C k_ratchetref08_writing_must [(strip (strip v0)), (strip t50_31), (.int .i64 4)]) fun t51_32 =>
 M.bind (fa 3 v3) fun t52_33 =>
 M.bind (ld none false t52_33) fun t53_34 =>
 condM t53_34
 (M.bind (fa 2 v3) fun t55_35 =>
 M.bind (ld none false t55_35) fun t56_36 =>
 M.bind (C k_ratchetref08_writing_u [(strip (strip v0)), (strip t56_36)]) fun t57_37 =>
 M.pure (.tup []))
 (M.pure (.tup [])) :=
 (atP_step P X _ _ _).trans (by kernel_rfl)
theorem ratchetref08_writing_limits_eq (a0 a1 : PV) : C k_ratchetref08_writing_limits [a0, a1] =
 trunc (M.bind (bx 4 a1) fun t3_0 =>
 M.bind (fa 0 t3_0) fun t5_1 =>
 M.bind (ld none false t5_1) fun t6_2 =>
 condM t6_2
 (p_ratchetref08_writing_limits_111 a0 t3_0 (.int .u8 4))
 (p_ratchetref08_writing_limits_111 a0 t3_0 (.int .u8 0))) := by
 rw [C, callW_eq _ _ rfl]; kernel_rfl
theorem entry_PutTag_1_eq (a0 a1 : PV) : C k_entry_PutTag_1 [a0, a1] =
 trunc (M.bind (ld none false a1) fun t4_0 =>
 M.bind (C k_entry_pen_tag [(strip (strip a0)), (strip t4_0)]) fun t5_1 =>
 M.pure (.tup [])) := by
 rw [C, callW_eq _ _ rfl]; kernel_rfl
theorem entry_pen_tag_eq (a0 a1 : PV) : C k_entry_pen_tag [a0, a1] =
 trunc (M.bind (C k_entry_pen_byte [(strip (strip a0)), (.int .u8 0)]) fun t5_0 =>
 M.bind (C k_entry_pen_index [(strip (strip a0)), (strip (strip a1))]) fun t8_1 =>
 M.pure (.tup [])) := by
 rw [C, callW_eq _ _ rfl]; kernel_rfl
theorem ratchetref08_writing_index_eq (a0 a1 : PV) : C k_ratchetref08_writing_index [a0, a1] =
 trunc (M.bind (bi .geq .none (strip a1) (.int .i64 0)) fun t6_0 =>
 M.bind (gd (strip t6_0) true (M.pure (strip a1))) fun t8_1 =>
 M.bind (gd (strip t6_0) true (bi .lss .none t8_1 (.int .i64 2147483648))) fun t9_2 =>
 M.bind (pick (strip t6_0) t9_2 (.bool false)) fun t10_3 =>
 M.bind (C k_ratchetref08_writing_must [(strip (strip a0)), (strip t10_3), (.int .i64 4)]) fun t11_4 =>
 M.bind (bi .geq .none (strip a1) (.int .i64 0)) fun t13_5 =>
 condM t13_5
 (M.bind (cv (.int .u64) true (strip a1)) fun t16_6 =>
 M.bind (C k_ratchetref08_writing_u [(strip (strip a0)), (strip t16_6)]) fun t17_7 =>
 M.pure (.tup []))
 (M.pure (.tup []))) := by
 rw [C, callW_eq _ _ rfl]; kernel_rfl
end Go.Proofs.Ytofbbijagbpicaa.Pi.Q
namespace Go.Proofs.Ytofbbijagbpicaa.Pi.Q
open Go Go.Proofs.Ytofbbijagbpicaa.Pi
set_option linter.unusedVariables false
set_option maxRecDepth 100000
theorem entry_write_1_deq (a0 a1 : PV) : CD none k_entry_write_1 [a0, a1] =
 noPan (trunc (M.bind (M.pure .niliface) fun t3_0 =>
 M.bind (bi .neq .iface (strip t3_0) .niliface) fun t5_1 =>
 condM t5_1
 (nb (M.pure (strip t3_0)) fun t6_2 =>
 nb (ta y_entry_fault (.agg [(.int .i64 0), (.int .i64 0)]) false t6_2) fun t7_3 =>
 nb (fd 1 none t7_3) fun t8_4 =>
 guardM (!clash (tst a0) (.no) && (!clash (tst a0) (.no) && (!clash (tst a0) (.no) && true))) <| M.bind (noPan (st 1 false a0 (.slice false true 0 []))) fun _ =>
 M.bind (noPan (st 1 true a1 t8_4)) fun _ =>
 M.pure (.tup []))
 (M.pure (.tup [])))) := by
 rw [CD, callDW_eq]; kernel_rfl
theorem entry_write_1_req (r : PV) (a0 a1 : PV) : CD (some r) k_entry_write_1 [a0, a1] =
 noPan (trunc (M.bind (M.pure r) fun t3_0 =>
 M.bind (bi .neq .iface (strip t3_0) .niliface) fun t5_1 =>
 condM t5_1
 (nb (M.pure (strip t3_0)) fun t6_2 =>
 nb (ta y_entry_fault (.agg [(.int .i64 0), (.int .i64 0)]) false t6_2) fun t7_3 =>
 nb (fd 1 none t7_3) fun t8_4 =>
 guardM (!clash (tst a0) (.no) && (!clash (tst a0) (.no) && (!clash (tst a0) (.no) && true))) <| M.bind (noPan (st 1 false a0 (.slice false true 0 []))) fun _ =>
 M.bind (noPan (st 1 true a1 t8_4)) fun _ =>
 M.pure (.tup []))
 (M.pure (.tup [])))) := by
 rw [CD, callDW_eq]; kernel_rfl
theorem entry_abstract_eq : C k_entry_abstract [] =
 trunc (M.bind (al [(.int .i64 0), (.int .i64 0), (.int .i64 0), (.int .i64 0), (.int .i64 0), (.int .i64 0), (.int .i64 0), (.int .i64 0), (.int .i64 0), (.int .i64 0), (.int .i64 0), (.int .i64 0)]) fun t0_0 =>
 M.bind (bd [(.int .i64 0), (.int .i64 0), (.int .i64 0), (.int .i64 0), (.int .i64 0), (.int .i64 0), (.int .i64 0), (.int .i64 0), (.int .i64 0), (.int .i64 0), (.int .i64 0), (.int .i64 0)] [(0, 1, (.int .i64 (-11))), (1, 1, (.int .i64 (-9))), (2, 1, (.int .i64 (-8))), (3, 1, (.int .i64 (-7))), (4, 1, (.int .i64 (-6))), (5, 1, (.int .i64 (-5))), (6, 1, (.int .i64 (-3))), (7, 1, (.int .i64 (-1))), (8, 1, (.int .i64 (-10))), (9, 1, (.int .i64 (-4))), (10, 1, (.int .i64 (-2))), (11, 1, (.int .i64 (-12)))]) fun t1_1 =>
 M.bind (st 12 true t0_0 t1_1) fun _ =>
 M.bind (ld (some 12) true t0_0) fun t0_3 => guardM (!isTup t0_3) (M.pure t0_3)) := by
 rw [C, callW_eq _ _ rfl]; kernel_rfl
noncomputable def p_ratchetref08_code_1010 (v0 v2 v3 : PV) : M PV := atP P X k_ratchetref08_code [1, 0, 1, 0] (mkEnv 15 0 [(0, v0), (2, v2), (3, v3)])
theorem p_ratchetref08_code_1010_eq (v0 v2 v3 : PV) : p_ratchetref08_code_1010 v0 v2 v3 =
 M.bind (bi .leq .none (strip v3) (.int .i64 116)) fun t5_0 =>
 condM t5_0
 (M.bind (cv (.int .u8) true (strip v3)) fun t9_1 =>
 M.bind (C k_ratchetref08_abstract [(strip t9_1)]) fun t10_2 =>
 M.bind (bi .eql .none t10_2 (strip v0)) fun t12_3 =>
 condM t12_3
 (M.bind (cv (.int .u8) true (strip v3)) fun t14_4 =>
 resT t14_4 (M.pure t14_4))
 (M.bind (bi .add .none (strip v3) (.int .i64 1)) fun t7_5 =>
 p_ratchetref08_code_1010 v0 v2 t7_5))
 (M.pure (.int .u8 0)) :=
 (atP_step P X _ _ _).trans (by kernel_rfl)
theorem ratchetref08_code_eq (a0 : PV) : C k_ratchetref08_code [a0] =
 trunc (p_ratchetref08_code_1010 a0 (.int .u8 0) (.int .i64 105)) := by
 rw [C, callW_eq _ _ rfl]; kernel_rfl
theorem entry_pen_comp_eq (a0 a1 : PV) : C k_entry_pen_comp [a0, a1] =
 trunc (M.bind (bx 4 a1) fun t3_0 =>
 M.bind (fa 0 t3_0) fun t5_1 =>
 M.bind (ld none false t5_1) fun t6_2 =>
 M.bind (bi .eql .none t6_2 (.int .i64 1)) fun t7_3 =>
 M.bind (gd (strip t7_3) false (fa 1 t3_0)) fun t9_4 =>
 M.bind (gd (strip t7_3) false (ld none false t9_4)) fun t10_5 =>
 M.bind (gd (strip t7_3) false (lnL t10_5)) fun t11_6 =>
 M.bind (gd (strip t7_3) false (fa 2 t3_0)) fun t12_7 =>
 M.bind (gd (strip t7_3) false (ld none false t12_7)) fun t13_8 =>
 M.bind (gd (strip t7_3) false (lnL t13_8)) fun t14_9 =>
 M.bind (gd (strip t7_3) false (bi .add .none t11_6 t14_9)) fun t15_10 =>
 M.bind (gd (strip t7_3) false (bi .eql .none t15_10 (.int .i64 0))) fun t16_11 =>
 M.bind (pick (strip t7_3) (.bool true) t16_11) fun t17_12 =>
 M.bind (C k_entry_pen_must [(strip (strip a0)), (strip t17_12)]) fun t18_13 =>
 M.bind (fa 0 t3_0) fun t19_14 =>
 M.bind (ld none false t19_14) fun t20_15 =>
 M.bind (bi .eql .none t20_15 (.int .i64 1)) fun t24_16 =>
 condM t24_16
 (M.bind (fa 3 t3_0) fun t26_17 =>
 M.bind (ld none false t26_17) fun t27_18 =>
 M.bind (lnL t27_18) fun t28_19 =>
 M.bind (bi .eql .none t28_19 (.int .i64 0)) fun t29_20 =>
 M.bind (C k_entry_pen_must [(strip (strip a0)), (strip t29_20)]) fun t30_21 =>
 M.bind (C k_entry_pen_byte [(strip (strip a0)), (.int .u8 96)]) fun t32_22 =>
 M.bind (fa 1 t3_0) fun t34_23 =>
 M.bind (ld none false t34_23) fun t35_24 =>
 M.bind (C k_entry_pen_vals [(strip (strip a0)), (strip t35_24)]) fun t36_25 =>
 M.bind (fa 2 t3_0) fun t38_26 =>
 M.bind (ld none false t38_26) fun t39_27 =>
 M.bind (C k_entry_pen_vals [(strip (strip a0)), (strip t39_27)]) fun t40_28 =>
 M.pure (.tup []))
 (M.bind (bi .eql .none t20_15 (.int .i64 2)) fun t42_29 =>
 condM t42_29
 (M.bind (C k_entry_pen_byte [(strip (strip a0)), (.int .u8 95)]) fun t44_30 =>
 M.bind (fa 3 t3_0) fun t46_31 =>
 M.bind (ld none false t46_31) fun t47_32 =>
 M.bind (mf k_entry_pen_field [(strip a0)] []) fun t49_33 =>
 M.bind (C k_entry_each_api_Field [(strip (strip a0)), (strip t47_32), (.int .i64 10000), (strip t49_33)]) fun t50_34 =>
 M.pure (.tup []))
 (M.bind (bi .eql .none t20_15 (.int .i64 3)) fun t52_35 =>
 condM t52_35
 (M.bind (fa 3 t3_0) fun t54_36 =>
 M.bind (ld none false t54_36) fun t55_37 =>
 M.bind (lnL t55_37) fun t56_38 =>
 M.bind (bi .eql .none t56_38 (.int .i64 1)) fun t57_39 =>
 M.bind (C k_entry_pen_must [(strip (strip a0)), (strip t57_39)]) fun t58_40 =>
 M.bind (C k_entry_pen_byte [(strip (strip a0)), (.int .u8 94)]) fun t60_41 =>
 M.bind (fa 3 t3_0) fun t62_42 =>
 M.bind (ld none false t62_42) fun t63_43 =>
 M.bind (iaS 4 t63_43 (.int .i64 0)) fun t64_44 =>
 M.bind (ld (some 4) false t64_44) fun t65_45 =>
 M.bind (C k_entry_pen_field [(strip (strip a0)), (strip t65_45)]) fun t66_46 =>
 M.pure (.tup []))
 (M.bind (C k_entry_pen_must [(strip (strip a0)), (.bool false)]) fun t22_47 =>
 M.pure (.tup []))))) := by
 rw [C, callW_eq _ _ rfl]; kernel_rfl
noncomputable def p_entry_each_int_1 (v0 v1 v3 : PV) : M PV := atP P X k_entry_each_int [1] (mkEnv 31 0 [(0, v0), (1, v1), (3, v3)])
noncomputable def p_entry_each_int_1110 (v3 v21 v22 v23 : PV) : M PV := atP P X k_entry_each_int [1, 1, 1, 0] (mkEnv 31 0 [(3, v3), (21, v21), (22, v22), (23, v23)])
theorem p_entry_each_int_1_eq (v0 v1 v3 : PV) : p_entry_each_int_1 v0 v1 v3 =
 M.bind (lnL (strip v1)) fun t18_0 =>
 M.bind (cv (.int .u64) true t18_0) fun t19_1 =>
 M.bind (C k_entry_pen_u [(strip (strip v0)), (strip t19_1)]) fun t20_2 =>
 M.bind (lnL (strip v1)) fun t22_3 =>
 p_entry_each_int_1110 v3 (strip v1) t22_3 (.int .i64 0) :=
 (atP_step P X _ _ _).trans (by kernel_rfl)
theorem p_entry_each_int_1110_eq (v3 v21 v22 v23 : PV) : p_entry_each_int_1110 v3 v21 v22 v23 =
 M.bind (bi .lss .none v23 v22) fun t24_0 =>
 condM t24_0
 (M.bind (iaS 1 v21 v23) fun t25_1 =>
 M.bind (ld none true t25_1) fun t26_2 =>
 M.bind (callV P C (strip v3) [(strip (strip t26_2))]) fun t29_3 =>
 M.bind (bi .add .none v23 (.int .i64 1)) fun t30_4 =>
 p_entry_each_int_1110 v3 v21 v22 (strip t30_4))
 (M.pure (.tup [])) :=
 (atP_step P X _ _ _).trans (by kernel_rfl)
theorem entry_each_int_eq (a0 a1 a2 a3 : PV) : C k_entry_each_int [a0, a1, a2, a3] =
 trunc (M.bind (lnL (strip a1)) fun t11_0 =>
 M.bind (bi .gtr .none t11_0 (strip a2)) fun t13_1 =>
 condM t13_1
 (M.bind (bd [(.int .i64 0), (.int .i64 0)] [(0, 1, (.int .i64 0)), (1, 1, (.int .i64 2))]) fun t14_2 =>
 M.bind (mi y_entry_fault t14_2) fun t15_3 =>
 M.bind (pn t15_3) fun _ =>
 p_entry_each_int_1 a0 a1 a3)
 (p_entry_each_int_1 a0 a1 a3)) := by
 rw [C, callW_eq _ _ rfl]; kernel_rfl
theorem entry_pen_index_eq (a0 a1 : PV) : C k_entry_pen_index [a0, a1] =
 trunc (M.bind (C k_entry_fits [(strip (strip a1))]) fun t6_0 =>
 M.bind (C k_entry_pen_must [(strip (strip a0)), (strip t6_0)]) fun t7_1 =>
 M.bind (cv (.int .u64) true (strip a1)) fun t10_2 =>
 M.bind (C k_entry_pen_u [(strip (strip a0)), (strip t10_2)]) fun t11_3 =>
 M.pure (.tup [])) := by
 rw [C, callW_eq _ _ rfl]; kernel_rfl
theorem entry_pen_u_eq (a0 a1 : PV) : C k_entry_pen_u [a0, a1] =
 trunc (chk
 (M.bind (noPan (M.pure (strip a0))) fun t4_11 =>
 M.bind (noPan (M.pure (strip a0))) fun t5_12 =>
 M.bind (noPan (nc P t5_12)) fun t6_13 =>
 M.bind (noPan (fa 0 t6_13)) fun t7_14 =>
 M.bind (noPan (M.pure (strip a1))) fun t9_15 =>
 M.bind (noPan (C k_leb_PutU [(strip t9_15)])) fun t10_16 =>
 M.bind (noPan (ld none true t7_14)) fun t8_17 =>
 M.bind (noPan (ap true 1 1 t8_17 t10_16)) fun t11_18 =>
 M.bind (noPan (nc P t4_11)) fun t12_19 =>
 M.bind (noPan (fa 0 t12_19)) fun t13_20 =>
 M.bind (noPan (st 1 true t13_20 t11_18)) fun _ =>
 M.pure [a0, a1, .undef, .undef, t4_11, t5_12, t6_13, t7_14, (strip t8_17), t9_15, t10_16, (strip t11_18), t12_19, t13_20])
 (M.bind (noPan (M.pure (strip a0))) fun t4_0 =>
 M.bind (noPan (M.pure (strip a0))) fun t5_1 =>
 M.bind (noPan (nc P t5_1)) fun t6_2 =>
 M.bind (noPan (fa 0 t6_2)) fun t7_3 =>
 M.bind (noPan (M.pure (strip a1))) fun t9_4 =>
 M.bind (noPan (ld none true t7_3)) fun t8_5 =>
 M.bind (noPan (C k_leb_PutU [(strip t9_4)])) fun t10_6 =>
 M.bind (noPan (ap true 1 1 t8_5 t10_6)) fun t11_7 =>
 M.bind (noPan (nc P t4_0)) fun t12_8 =>
 M.bind (noPan (fa 0 t12_8)) fun t13_9 =>
 M.bind (noPan (st 1 true t13_9 t11_7)) fun _ =>
 M.pure [a0, a1, .undef, .undef, t4_0, t5_1, t6_2, t7_3, (strip t8_5), t9_4, t10_6, (strip t11_7), t12_8, t13_9]) <|
 M.bind (noPan (M.pure (strip a0))) fun t4_22 =>
 M.bind (noPan (M.pure (strip a0))) fun t5_23 =>
 M.bind (noPan (nc P t5_23)) fun t6_24 =>
 M.bind (noPan (fa 0 t6_24)) fun t7_25 =>
 M.bind (noPan (M.pure (strip a1))) fun t9_26 =>
 M.bind (noPan (ld none true t7_25)) fun t8_27 =>
 M.bind (noPan (C k_leb_PutU [(strip t9_26)])) fun t10_28 =>
 M.bind (noPan (ap true 1 1 t8_27 t10_28)) fun t11_29 =>
 M.bind (noPan (nc P t4_22)) fun t12_30 =>
 M.bind (noPan (fa 0 t12_30)) fun t13_31 =>
 M.bind (noPan (st 1 true t13_31 t11_29)) fun _ =>
 M.pure (.tup [])) := by
 rw [C, callW_eq _ _ rfl]; kernel_rfl
theorem ratchetref08_writing_u_eq (a0 a1 : PV) : C k_ratchetref08_writing_u [a0, a1] =
 trunc (chk
 (M.bind (noPan (M.pure (strip a0))) fun t4_11 =>
 M.bind (noPan (M.pure (strip a0))) fun t5_12 =>
 M.bind (noPan (nc P t5_12)) fun t6_13 =>
 M.bind (noPan (fa 0 t6_13)) fun t7_14 =>
 M.bind (noPan (M.pure (strip a1))) fun t9_15 =>
 M.bind (noPan (C k_ratchetref01_PutU [(strip t9_15)])) fun t10_16 =>
 M.bind (noPan (ld none true t7_14)) fun t8_17 =>
 M.bind (noPan (ap true 1 1 t8_17 t10_16)) fun t11_18 =>
 M.bind (noPan (nc P t4_11)) fun t12_19 =>
 M.bind (noPan (fa 0 t12_19)) fun t13_20 =>
 M.bind (noPan (st 1 true t13_20 t11_18)) fun _ =>
 M.pure [a0, a1, .undef, .undef, t4_11, t5_12, t6_13, t7_14, (strip t8_17), t9_15, t10_16, (strip t11_18), t12_19, t13_20])
 (M.bind (noPan (M.pure (strip a0))) fun t4_0 =>
 M.bind (noPan (M.pure (strip a0))) fun t5_1 =>
 M.bind (noPan (nc P t5_1)) fun t6_2 =>
 M.bind (noPan (fa 0 t6_2)) fun t7_3 =>
 M.bind (noPan (M.pure (strip a1))) fun t9_4 =>
 M.bind (noPan (ld none true t7_3)) fun t8_5 =>
 M.bind (noPan (C k_ratchetref01_PutU [(strip t9_4)])) fun t10_6 =>
 M.bind (noPan (ap true 1 1 t8_5 t10_6)) fun t11_7 =>
 M.bind (noPan (nc P t4_0)) fun t12_8 =>
 M.bind (noPan (fa 0 t12_8)) fun t13_9 =>
 M.bind (noPan (st 1 true t13_9 t11_7)) fun _ =>
 M.pure [a0, a1, .undef, .undef, t4_0, t5_1, t6_2, t7_3, (strip t8_5), t9_4, t10_6, (strip t11_7), t12_8, t13_9]) <|
 M.bind (noPan (M.pure (strip a0))) fun t4_22 =>
 M.bind (noPan (M.pure (strip a0))) fun t5_23 =>
 M.bind (noPan (nc P t5_23)) fun t6_24 =>
 M.bind (noPan (fa 0 t6_24)) fun t7_25 =>
 M.bind (noPan (M.pure (strip a1))) fun t9_26 =>
 M.bind (noPan (ld none true t7_25)) fun t8_27 =>
 M.bind (noPan (C k_ratchetref01_PutU [(strip t9_26)])) fun t10_28 =>
 M.bind (noPan (ap true 1 1 t8_27 t10_28)) fun t11_29 =>
 M.bind (noPan (nc P t4_22)) fun t12_30 =>
 M.bind (noPan (fa 0 t12_30)) fun t13_31 =>
 M.bind (noPan (st 1 true t13_31 t11_29)) fun _ =>
 M.pure (.tup [])) := by
 rw [C, callW_eq _ _ rfl]; kernel_rfl
noncomputable def p_ratchetref08_writing_comp_11 (v0 v3 : PV) : M PV := atP P X k_ratchetref08_writing_comp [1, 1] (mkEnv 105 0 [(0, v0), (3, v3)])
noncomputable def p_ratchetref08_writing_comp_1110 (v0 v3 v4 : PV) : M PV := atP P X k_ratchetref08_writing_comp [1, 1, 1, 0] (mkEnv 105 0 [(0, v0), (3, v3), (4, v4)])
theorem p_ratchetref08_writing_comp_11_eq (v0 v3 : PV) : p_ratchetref08_writing_comp_11 v0 v3 =
 p_ratchetref08_writing_comp_1110 v0 v3 (.int .i64 0) :=
 (atP_step P X _ _ _).trans (by kernel_rfl)
theorem p_ratchetref08_writing_comp_1110_eq (v0 v3 v4 : PV) : p_ratchetref08_writing_comp_1110 v0 v3 v4 =
 M.bind (fa 3 v3) fun t92_0 =>
 M.bind (ld none false t92_0) fun t93_1 =>
 M.bind (lnL t93_1) fun t94_2 =>
 M.bind (bi .lss .none (strip v4) t94_2) fun t95_3 =>
 condM t95_3
 (M.bind (fa 3 v3) fun t99_4 =>
 M.bind (ld none false t99_4) fun t100_5 =>
 M.bind (iaS 4 t100_5 (strip v4)) fun t102_6 =>
 M.bind (ld (some 4) false t102_6) fun t103_7 =>
 M.bind (C k_ratchetref08_writing_field [(strip (strip v0)), (strip t103_7)]) fun t104_8 =>
 M.bind (bi .add .none (strip v4) (.int .i64 1)) fun t97_9 =>
 p_ratchetref08_writing_comp_1110 v0 v3 t97_9)
 (M.pure (.tup [])) :=
 (atP_step P X _ _ _).trans (by kernel_rfl)
theorem ratchetref08_writing_comp_eq (a0 a1 : PV) : C k_ratchetref08_writing_comp [a0, a1] =
 trunc (M.bind (bx 4 a1) fun t3_0 =>
 M.bind (fa 0 t3_0) fun t5_1 =>
 M.bind (ld none false t5_1) fun t6_2 =>
 M.bind (bi .eql .none t6_2 (.int .i64 1)) fun t10_3 =>
 condM t10_3
 (M.bind (fa 3 t3_0) fun t12_4 =>
 M.bind (ld none false t12_4) fun t13_5 =>
 M.bind (lnL t13_5) fun t14_6 =>
 M.bind (bi .eql .none t14_6 (.int .i64 0)) fun t15_7 =>
 M.bind (C k_ratchetref08_writing_must [(strip (strip a0)), (strip t15_7), (.int .i64 4)]) fun t16_8 =>
 M.bind (nc P (strip a0)) fun t19_9 =>
 M.bind (fa 0 t19_9) fun t20_10 =>
 M.bind (ld none true t20_10) fun t21_11 =>
 M.bind (bs true none [(.int .u8 96)]) fun t22_12 =>
 M.bind (ap true 1 1 t21_11 t22_12) fun t23_13 =>
 M.bind (nc P (strip a0)) fun t24_14 =>
 M.bind (fa 0 t24_14) fun t25_15 =>
 M.bind (st 1 true t25_15 t23_13) fun _ =>
 M.bind (fa 1 t3_0) fun t27_17 =>
 M.bind (ld none false t27_17) fun t28_18 =>
 M.bind (C k_ratchetref08_writing_vals [(strip (strip a0)), (strip t28_18)]) fun t29_19 =>
 M.bind (fa 2 t3_0) fun t31_20 =>
 M.bind (ld none false t31_20) fun t32_21 =>
 M.bind (C k_ratchetref08_writing_vals [(strip (strip a0)), (strip t32_21)]) fun t33_22 =>
 M.pure (.tup []))
 (M.bind (bi .eql .none t6_2 (.int .i64 2)) fun t35_23 =>
 condM t35_23
 (M.bind (fa 1 t3_0) fun t37_24 =>
 M.bind (ld none false t37_24) fun t38_25 =>
 M.bind (lnL t38_25) fun t39_26 =>
 M.bind (bi .eql .none t39_26 (.int .i64 0)) fun t40_27 =>
 M.bind (gd (strip t40_27) true (fa 2 t3_0)) fun t42_28 =>
 M.bind (gd (strip t40_27) true (ld none false t42_28)) fun t43_29 =>
 M.bind (gd (strip t40_27) true (lnL t43_29)) fun t44_30 =>
 M.bind (gd (strip t40_27) true (bi .eql .none t44_30 (.int .i64 0))) fun t45_31 =>
 M.bind (pick (strip t40_27) t45_31 (.bool false)) fun t46_32 =>
 M.bind (C k_ratchetref08_writing_must [(strip (strip a0)), (strip t46_32), (.int .i64 4)]) fun t47_33 =>
 M.bind (nc P (strip a0)) fun t50_34 =>
 M.bind (fa 0 t50_34) fun t51_35 =>
 M.bind (ld none true t51_35) fun t52_36 =>
 M.bind (bs true none [(.int .u8 95)]) fun t53_37 =>
 M.bind (ap true 1 1 t52_36 t53_37) fun t54_38 =>
 M.bind (nc P (strip a0)) fun t55_39 =>
 M.bind (fa 0 t55_39) fun t56_40 =>
 M.bind (st 1 true t56_40 t54_38) fun _ =>
 M.bind (fa 3 t3_0) fun t58_42 =>
 M.bind (ld none false t58_42) fun t59_43 =>
 M.bind (lnL t59_43) fun t60_44 =>
 M.bind (C k_ratchetref08_writing_many [(strip (strip a0)), (strip t60_44), (.int .i64 10000)]) fun t61_45 =>
 p_ratchetref08_writing_comp_11 a0 t3_0)
 (M.bind (bi .eql .none t6_2 (.int .i64 3)) fun t63_46 =>
 condM t63_46
 (M.bind (fa 1 t3_0) fun t65_47 =>
 M.bind (ld none false t65_47) fun t66_48 =>
 M.bind (lnL t66_48) fun t67_49 =>
 M.bind (bi .eql .none t67_49 (.int .i64 0)) fun t68_50 =>
 M.bind (gd (strip t68_50) true (fa 2 t3_0)) fun t70_51 =>
 M.bind (gd (strip t68_50) true (ld none false t70_51)) fun t71_52 =>
 M.bind (gd (strip t68_50) true (lnL t71_52)) fun t72_53 =>
 M.bind (gd (strip t68_50) true (bi .eql .none t72_53 (.int .i64 0))) fun t73_54 =>
 M.bind (pick (strip t68_50) t73_54 (.bool false)) fun t74_55 =>
 M.bind (gd (strip t74_55) true (fa 3 t3_0)) fun t76_56 =>
 M.bind (gd (strip t74_55) true (ld none false t76_56)) fun t77_57 =>
 M.bind (gd (strip t74_55) true (lnL t77_57)) fun t78_58 =>
 M.bind (gd (strip t74_55) true (bi .eql .none t78_58 (.int .i64 1))) fun t79_59 =>
 M.bind (pick (strip t74_55) t79_59 (.bool false)) fun t80_60 =>
 M.bind (C k_ratchetref08_writing_must [(strip (strip a0)), (strip t80_60), (.int .i64 4)]) fun t81_61 =>
 M.bind (nc P (strip a0)) fun t84_62 =>
 M.bind (fa 0 t84_62) fun t85_63 =>
 M.bind (ld none true t85_63) fun t86_64 =>
 M.bind (bs true none [(.int .u8 94)]) fun t87_65 =>
 M.bind (ap true 1 1 t86_64 t87_65) fun t88_66 =>
 M.bind (nc P (strip a0)) fun t89_67 =>
 M.bind (fa 0 t89_67) fun t90_68 =>
 M.bind (st 1 true t90_68 t88_66) fun _ =>
 p_ratchetref08_writing_comp_11 a0 t3_0)
 (M.bind (C k_ratchetref08_writing_must [(strip (strip a0)), (.bool false), (.int .i64 4)]) fun t8_70 =>
 p_ratchetref08_writing_comp_11 a0 t3_0)))) := by
 rw [C, callW_eq _ _ rfl]; kernel_rfl
theorem ratchetref08_abstract_eq (a0 : PV) : C k_ratchetref08_abstract [a0] =
 trunc (M.bind (bi .eql .none (strip a0) (.int .u8 115)) fun t5_0 =>
 condM t5_0
 (M.pure (.int .i64 (-2)))
 (M.bind (bi .eql .none (strip a0) (.int .u8 114)) fun t7_1 =>
 condM t7_1
 (M.pure (.int .i64 (-4)))
 (M.bind (bi .eql .none (strip a0) (.int .u8 113)) fun t9_2 =>
 condM t9_2
 (M.pure (.int .i64 (-10)))
 (M.bind (bi .eql .none (strip a0) (.int .u8 112)) fun t11_3 =>
 condM t11_3
 (M.pure (.int .i64 (-1)))
 (M.bind (bi .eql .none (strip a0) (.int .u8 111)) fun t13_4 =>
 condM t13_4
 (M.pure (.int .i64 (-3)))
 (M.bind (bi .eql .none (strip a0) (.int .u8 110)) fun t15_5 =>
 condM t15_5
 (M.pure (.int .i64 (-5)))
 (M.bind (bi .eql .none (strip a0) (.int .u8 109)) fun t17_6 =>
 condM t17_6
 (M.pure (.int .i64 (-6)))
 (M.bind (bi .eql .none (strip a0) (.int .u8 108)) fun t19_7 =>
 condM t19_7
 (M.pure (.int .i64 (-7)))
 (M.bind (bi .eql .none (strip a0) (.int .u8 107)) fun t21_8 =>
 condM t21_8
 (M.pure (.int .i64 (-8)))
 (M.bind (bi .eql .none (strip a0) (.int .u8 106)) fun t23_9 =>
 condM t23_9
 (M.pure (.int .i64 (-9)))
 (M.bind (bi .eql .none (strip a0) (.int .u8 105)) fun t25_10 =>
 condM t25_10
 (M.pure (.int .i64 (-11)))
 (M.bind (bi .eql .none (strip a0) (.int .u8 116)) fun t27_11 =>
 condM t27_11
 (M.pure (.int .i64 (-12)))
 (M.pure (.int .i64 0)))))))))))))) := by
 rw [C, callW_eq _ _ rfl]; kernel_rfl
end Go.Proofs.Ytofbbijagbpicaa.Pi.Q
namespace Go.Proofs.Ytofbbijagbpicaa.Pi.Q
open Go Go.Proofs.Ytofbbijagbpicaa.Pi
set_option linter.unusedVariables false
set_option maxRecDepth 100000
theorem entry_pen_vals_eq (a0 a1 : PV) : C k_entry_pen_vals [a0, a1] =
 trunc (M.bind (mf k_entry_pen_val [(strip a0)] []) fun t7_0 =>
 M.bind (C k_entry_each_api_ValType [(strip (strip a0)), (strip (strip a1)), (.int .i64 1000), (strip t7_0)]) fun t8_1 =>
 M.pure (.tup [])) := by
 rw [C, callW_eq _ _ rfl]; kernel_rfl
noncomputable def p_entry_each_api_Field_1 (v0 v1 v3 : PV) : M PV := atP P X k_entry_each_api_Field [1] (mkEnv 31 0 [(0, v0), (1, v1), (3, v3)])
noncomputable def p_entry_each_api_Field_1110 (v3 v21 v22 v23 : PV) : M PV := atP P X k_entry_each_api_Field [1, 1, 1, 0] (mkEnv 31 0 [(3, v3), (21, v21), (22, v22), (23, v23)])
theorem p_entry_each_api_Field_1_eq (v0 v1 v3 : PV) : p_entry_each_api_Field_1 v0 v1 v3 =
 M.bind (lnL (strip v1)) fun t18_0 =>
 M.bind (cv (.int .u64) true t18_0) fun t19_1 =>
 M.bind (C k_entry_pen_u [(strip (strip v0)), (strip t19_1)]) fun t20_2 =>
 M.bind (lnL (strip v1)) fun t22_3 =>
 p_entry_each_api_Field_1110 v3 (strip v1) t22_3 (.int .i64 0) :=
 (atP_step P X _ _ _).trans (by kernel_rfl)
theorem p_entry_each_api_Field_1110_eq (v3 v21 v22 v23 : PV) : p_entry_each_api_Field_1110 v3 v21 v22 v23 =
 M.bind (bi .lss .none v23 v22) fun t24_0 =>
 condM t24_0
 (M.bind (iaS 4 v21 v23) fun t25_1 =>
 M.bind (ld (some 4) true t25_1) fun t26_2 =>
 M.bind (al [(.int .i64 0), (.bool false), (.int .i64 0), (.bool false)]) fun t9_3 =>
 M.bind (st 4 true t9_3 t26_2) fun _ =>
 M.bind (ld (some 4) false t9_3) fun t28_5 =>
 M.bind (callV P C (strip v3) [(strip t28_5)]) fun t29_6 =>
 M.bind (bi .add .none v23 (.int .i64 1)) fun t30_7 =>
 p_entry_each_api_Field_1110 v3 v21 v22 (strip t30_7))
 (M.pure (.tup [])) :=
 (atP_step P X _ _ _).trans (by kernel_rfl)
theorem entry_each_api_Field_eq (a0 a1 a2 a3 : PV) : C k_entry_each_api_Field [a0, a1, a2, a3] =
 trunc (M.bind (lnL (strip a1)) fun t11_0 =>
 M.bind (bi .gtr .none t11_0 (strip a2)) fun t13_1 =>
 condM t13_1
 (M.bind (bd [(.int .i64 0), (.int .i64 0)] [(0, 1, (.int .i64 0)), (1, 1, (.int .i64 2))]) fun t14_2 =>
 M.bind (mi y_entry_fault t14_2) fun t15_3 =>
 M.bind (pn t15_3) fun _ =>
 p_entry_each_api_Field_1 a0 a1 a3)
 (p_entry_each_api_Field_1 a0 a1 a3)) := by
 rw [C, callW_eq _ _ rfl]; kernel_rfl
noncomputable def p_entry_pen_field_11 (v0 v3 : PV) : M PV := atP P X k_entry_pen_field [1, 1] (mkEnv 24 0 [(0, v0), (3, v3)])
theorem p_entry_pen_field_11_eq (v0 v3 : PV) : p_entry_pen_field_11 v0 v3 =
 M.bind (fa 3 v3) fun t21_0 =>
 M.bind (ld none false t21_0) fun t22_1 =>
 M.bind (C k_entry_pen_flag [(strip (strip v0)), (strip t22_1)]) fun t23_2 =>
 M.pure (.tup []) :=
 (atP_step P X _ _ _).trans (by kernel_rfl)
theorem entry_pen_field_eq (a0 a1 : PV) : C k_entry_pen_field [a0, a1] =
 trunc (M.bind (bx 4 a1) fun t3_0 =>
 M.bind (fa 0 t3_0) fun t4_1 =>
 M.bind (ld (some 3) false t4_1) fun t5_2 =>
 M.bind (bd [(.int .i64 0), (.bool false), (.int .i64 0)] [(0, 1, (.int .i64 6))]) fun t11_3 =>
 M.bind (bi .eql (.struct [.int, .bool, .int]) t5_2 t11_3) fun t12_4 =>
 condM t12_4
 (M.bind (C k_entry_pen_byte [(strip (strip a0)), (.int .u8 120)]) fun t14_5 =>
 p_entry_pen_field_11 a0 t3_0)
 (M.bind (bd [(.int .i64 0), (.bool false), (.int .i64 0)] [(0, 1, (.int .i64 7))]) fun t16_6 =>
 M.bind (bi .eql (.struct [.int, .bool, .int]) t5_2 t16_6) fun t17_7 =>
 condM t17_7
 (M.bind (C k_entry_pen_byte [(strip (strip a0)), (.int .u8 119)]) fun t19_8 =>
 p_entry_pen_field_11 a0 t3_0)
 (M.bind (fa 0 t3_0) fun t7_9 =>
 M.bind (ld (some 3) false t7_9) fun t8_10 =>
 M.bind (C k_entry_pen_val [(strip (strip a0)), (strip t8_10)]) fun t9_11 =>
 p_entry_pen_field_11 a0 t3_0))) := by
 rw [C, callW_eq _ _ rfl]; kernel_rfl
noncomputable def p_leb_PutU_1100 (v0 v2 v3 : PV) : M PV := atP P X k_leb_PutU [1, 1, 0, 0] (mkEnv 19 0 [(0, v0), (2, v2), (3, v3)])
theorem p_leb_PutU_1100_eq (v0 v2 v3 : PV) : p_leb_PutU_1100 v0 v2 v3 =
 M.bind (bi .gtr .none (strip v0) (.int .u64 127)) fun t5_0 =>
 condM t5_0
 (M.bind (cv (.int .u8) true (strip v0)) fun t10_1 =>
 M.bind (bi .or .none t10_1 (.int .u8 128)) fun t11_2 =>
 M.bind (bs true none [t11_2]) fun t12_3 =>
 M.bind (ap true 1 1 v3 t12_3) fun t13_4 =>
 M.bind (bi .shr .none (strip v0) (.int .u64 7)) fun t7_5 =>
 p_leb_PutU_1100 t7_5 v2 t13_4)
 (M.bind (cv (.int .u8) true (strip v0)) fun t16_6 =>
 M.bind (bs true none [t16_6]) fun t17_7 =>
 M.bind (ap true 1 1 v3 t17_7) fun t18_8 =>
 resT t18_8 (M.pure t18_8)) :=
 (atP_step P X _ _ _).trans (by kernel_rfl)
theorem leb_PutU_eq (a0 : PV) : C k_leb_PutU [a0] =
 trunc (p_leb_PutU_1100 a0 (.slice false true 0 []) (.slice false true 0 [])) := by
 rw [C, callW_eq _ _ rfl]; kernel_rfl
noncomputable def p_ratchetref01_PutU_1100 (v0 v2 v3 : PV) : M PV := atP P X k_ratchetref01_PutU [1, 1, 0, 0] (mkEnv 20 0 [(0, v0), (2, v2), (3, v3)])
theorem p_ratchetref01_PutU_1100_eq (v0 v2 v3 : PV) : p_ratchetref01_PutU_1100 v0 v2 v3 =
 M.bind (bi .geq .none (strip v0) (.int .u64 128)) fun t5_0 =>
 condM t5_0
 (M.bind (bi .rem .none (strip v0) (.int .u64 128)) fun t8_1 =>
 M.bind (cv (.int .u8) true t8_1) fun t9_2 =>
 M.bind (bi .add .none t9_2 (.int .u8 128)) fun t10_3 =>
 M.bind (bs true none [t10_3]) fun t11_4 =>
 M.bind (ap true 1 1 v3 t11_4) fun t12_5 =>
 M.bind (bi .quo .none (strip v0) (.int .u64 128)) fun t14_6 =>
 p_ratchetref01_PutU_1100 t14_6 v2 t12_5)
 (M.bind (cv (.int .u8) true (strip v0)) fun t17_7 =>
 M.bind (bs true none [t17_7]) fun t18_8 =>
 M.bind (ap true 1 1 v3 t18_8) fun t19_9 =>
 resT t19_9 (M.pure t19_9)) :=
 (atP_step P X _ _ _).trans (by kernel_rfl)
theorem ratchetref01_PutU_eq (a0 : PV) : C k_ratchetref01_PutU [a0] =
 trunc (p_ratchetref01_PutU_1100 a0 (.slice false true 0 []) (.slice false true 0 [])) := by
 rw [C, callW_eq _ _ rfl]; kernel_rfl
noncomputable def p_ratchetref08_writing_vals_110 (v0 v1 v4 : PV) : M PV := atP P X k_ratchetref08_writing_vals [1, 1, 0] (mkEnv 21 0 [(0, v0), (1, v1), (4, v4)])
theorem p_ratchetref08_writing_vals_110_eq (v0 v1 v4 : PV) : p_ratchetref08_writing_vals_110 v0 v1 v4 =
 M.bind (lnL (strip v1)) fun t11_0 =>
 M.bind (bi .lss .none (strip v4) t11_0) fun t12_1 =>
 condM t12_1
 (M.bind (iaS 3 (strip v1) (strip v4)) fun t18_2 =>
 M.bind (ld (some 3) false t18_2) fun t19_3 =>
 M.bind (C k_ratchetref08_writing_val [(strip (strip v0)), (strip t19_3), (.bool false)]) fun t20_4 =>
 M.bind (bi .add .none (strip v4) (.int .i64 1)) fun t14_5 =>
 p_ratchetref08_writing_vals_110 v0 v1 t14_5)
 (M.pure (.tup [])) :=
 (atP_step P X _ _ _).trans (by kernel_rfl)
theorem ratchetref08_writing_vals_eq (a0 a1 : PV) : C k_ratchetref08_writing_vals [a0, a1] =
 trunc (M.bind (lnL (strip a1)) fun t7_0 =>
 M.bind (C k_ratchetref08_writing_many [(strip (strip a0)), (strip t7_0), (.int .i64 1000)]) fun t8_1 =>
 p_ratchetref08_writing_vals_110 a0 a1 (.int .i64 0)) := by
 rw [C, callW_eq _ _ rfl]; kernel_rfl
theorem ratchetref08_writing_field_eq (a0 a1 : PV) : C k_ratchetref08_writing_field [a0, a1] =
 trunc (M.bind (bx 4 a1) fun t3_0 =>
 M.bind (fa 0 t3_0) fun t5_1 =>
 M.bind (ld (some 3) false t5_1) fun t6_2 =>
 M.bind (C k_ratchetref08_writing_val [(strip (strip a0)), (strip t6_2), (.bool true)]) fun t7_3 =>
 M.bind (fa 3 t3_0) fun t9_4 =>
 M.bind (ld none false t9_4) fun t10_5 =>
 M.bind (C k_ratchetref08_writing_flag [(strip (strip a0)), (strip t10_5)]) fun t11_6 =>
 M.pure (.tup [])) := by
 rw [C, callW_eq _ _ rfl]; kernel_rfl
noncomputable def p_entry_each_api_ValType_1 (v0 v1 v3 : PV) : M PV := atP P X k_entry_each_api_ValType [1] (mkEnv 31 0 [(0, v0), (1, v1), (3, v3)])
noncomputable def p_entry_each_api_ValType_1110 (v3 v21 v22 v23 : PV) : M PV := atP P X k_entry_each_api_ValType [1, 1, 1, 0] (mkEnv 31 0 [(3, v3), (21, v21), (22, v22), (23, v23)])
theorem p_entry_each_api_ValType_1_eq (v0 v1 v3 : PV) : p_entry_each_api_ValType_1 v0 v1 v3 =
 M.bind (lnL (strip v1)) fun t18_0 =>
 M.bind (cv (.int .u64) true t18_0) fun t19_1 =>
 M.bind (C k_entry_pen_u [(strip (strip v0)), (strip t19_1)]) fun t20_2 =>
 M.bind (lnL (strip v1)) fun t22_3 =>
 p_entry_each_api_ValType_1110 v3 (strip v1) t22_3 (.int .i64 0) :=
 (atP_step P X _ _ _).trans (by kernel_rfl)
theorem p_entry_each_api_ValType_1110_eq (v3 v21 v22 v23 : PV) : p_entry_each_api_ValType_1110 v3 v21 v22 v23 =
 M.bind (bi .lss .none v23 v22) fun t24_0 =>
 condM t24_0
 (M.bind (iaS 3 v21 v23) fun t25_1 =>
 M.bind (ld (some 3) true t25_1) fun t26_2 =>
 M.bind (al [(.int .i64 0), (.bool false), (.int .i64 0)]) fun t9_3 =>
 M.bind (st 3 true t9_3 t26_2) fun _ =>
 M.bind (ld (some 3) false t9_3) fun t28_5 =>
 M.bind (callV P C (strip v3) [(strip t28_5)]) fun t29_6 =>
 M.bind (bi .add .none v23 (.int .i64 1)) fun t30_7 =>
 p_entry_each_api_ValType_1110 v3 v21 v22 (strip t30_7))
 (M.pure (.tup [])) :=
 (atP_step P X _ _ _).trans (by kernel_rfl)
theorem entry_each_api_ValType_eq (a0 a1 a2 a3 : PV) : C k_entry_each_api_ValType [a0, a1, a2, a3] =
 trunc (M.bind (lnL (strip a1)) fun t11_0 =>
 M.bind (bi .gtr .none t11_0 (strip a2)) fun t13_1 =>
 condM t13_1
 (M.bind (bd [(.int .i64 0), (.int .i64 0)] [(0, 1, (.int .i64 0)), (1, 1, (.int .i64 2))]) fun t14_2 =>
 M.bind (mi y_entry_fault t14_2) fun t15_3 =>
 M.bind (pn t15_3) fun _ =>
 p_entry_each_api_ValType_1 a0 a1 a3)
 (p_entry_each_api_ValType_1 a0 a1 a3)) := by
 rw [C, callW_eq _ _ rfl]; kernel_rfl
theorem entry_pen_flag_eq (a0 a1 : PV) : C k_entry_pen_flag [a0, a1] =
 trunc (condM (strip a1)
 (M.bind (C k_entry_pen_byte [(strip (strip a0)), (.int .u8 1)]) fun t6_0 =>
 M.pure (.tup []))
 (M.bind (C k_entry_pen_byte [(strip (strip a0)), (.int .u8 0)]) fun t8_1 =>
 M.pure (.tup []))) := by
 rw [C, callW_eq _ _ rfl]; kernel_rfl
noncomputable def p_ratchetref08_writing_flag_11 (v0 v4 : PV) : M PV := atP P X k_ratchetref08_writing_flag [1, 1] (mkEnv 16 0 [(0, v0), (4, v4)])
theorem p_ratchetref08_writing_flag_11_eq (v0 v4 : PV) : p_ratchetref08_writing_flag_11 v0 v4 =
 M.bind (nc P (strip v0)) fun t8_0 =>
 M.bind (fa 0 t8_0) fun t9_1 =>
 M.bind (ld none true t9_1) fun t10_2 =>
 M.bind (bs true none [(strip v4)]) fun t12_3 =>
 M.bind (ap true 1 1 t10_2 t12_3) fun t13_4 =>
 M.bind (nc P (strip v0)) fun t14_5 =>
 M.bind (fa 0 t14_5) fun t15_6 =>
 M.bind (st 1 true t15_6 t13_4) fun _ =>
 M.pure (.tup []) :=
 (atP_step P X _ _ _).trans (by kernel_rfl)
theorem ratchetref08_writing_flag_eq (a0 a1 : PV) : C k_ratchetref08_writing_flag [a0, a1] =
 trunc (condM (strip a1)
 (p_ratchetref08_writing_flag_11 a0 (.int .u8 1))
 (p_ratchetref08_writing_flag_11 a0 (.int .u8 0))) := by
 rw [C, callW_eq _ _ rfl]; kernel_rfl
end Go.Proofs.Ytofbbijagbpicaa.Pi.Q
namespace Go.Proofs.Ytofbbijagbpicaa.Pi.Q
open Go Go.Proofs.Ytofbbijagbpicaa.Pi
set_option linter.unusedVariables false
set_option linter.unusedSimpArgs false
set_option maxRecDepth 100000
attribute [local congr] ite_congr
theorem wu (x : Int) : IntKind.u64.wrap x = x % 18446744073709551616 := by simp only [IntKind.wrap, IntKind.signed, IntKind.bits]; simp
end Go.Proofs.Ytofbbijagbpicaa.Pi.Q
namespace Go.Proofs.Ytofbbijagbpicaa.Pi.Q
open Go Go.Proofs.Ytofbbijagbpicaa.Pi
set_option linter.unusedVariables false
set_option linter.unusedSimpArgs false
set_option maxRecDepth 100000
attribute [local congr] ite_congr
def flt (p e : Nat) : PV := .iface y_entry_fault (.agg [.int .i64 p, .int .i64 e])
def hname (c : Nat) : Int :=
  if c = 115 then -2 else if c = 114 then -4 else if c = 113 then -10 else if c = 112 then -1 else if c = 111 then -3 else if c = 110 then -5 else if c = 109 then -6 else if c = 108 then -7 else if c = 107 then -8 else if c = 106 then -9 else if c = 105 then -11 else if c = 116 then -12 else 0
theorem abstract_is {H : Heap} : run (C k_entry_abstract []) H = some (.ok (.agg [.int .i64 (-11), .int .i64 (-9), .int .i64 (-8), .int .i64 (-7), .int .i64 (-6), .int .i64 (-5), .int .i64 (-3), .int .i64 (-1), .int .i64 (-10), .int .i64 (-4), .int .i64 (-2), .int .i64 (-12)]) H) := by
  rw [entry_abstract_eq]
  simp (contextual := true) (dsimp := false) (disch := omega) only [↓goDown, goUp, List.length_cons, List.length_nil, List.map_cons, List.map_nil, List.take_succ_cons, List.take_zero, List.drop_succ_cons, List.drop_zero, List.drop_nil, List.take_nil, List.cons_append, List.nil_append, List.append_nil, List.set_cons_zero, List.set_cons_succ, List.all_cons, List.all_nil, ↓reduceIte, reduceCtorEq, ge_iff_le, gt_iff_lt, eq_self_iff_true, beq_self_eq_true, beq_iff_eq, bne_iff_ne, ne_eq, ite_not, Int.reduceEq, Option.getD_some, Option.getD_none, ite_self, Nat.reduceAdd, Nat.reduceSub, Nat.reduceMul, Nat.reduceLeDiff, Nat.reduceEqDiff, Nat.reduceBEq, Nat.reduceBNe, Int.reduceLT, Int.reduceLE, Int.reduceAdd, Int.reduceSub, Int.reduceMul, Int.reduceNeg, Int.reduceNe, Int.reduceBEq, Int.reduceBNe, Int.reduceToNat]
theorem run_ixA {len : Nat} {cs : List PV} {k : IntKind} {n : Int} {H : Heap} : run (ixA len 1 none (.agg cs) (.int k n)) H = if 0 ≤ n ∧ n < len then ldFR H (nth cs n.toNat) else none := by
  unfold run ixA fd
  by_cases h : 0 ≤ n ∧ n < len
  · have h1 : (decide (0 ≤ n) && decide (n < (len : Int))) = true := by simp [h]
    rw [if_pos h]
    simp only [h1, cond_true, Nat.mul_one, nth_is]
    cases nth cs n.toNat <;> rfl
  · have h1 : (decide (0 ≤ n) && decide (n < (len : Int))) = false := by
      rw [Bool.and_eq_false_iff]
      by_cases h0 : 0 ≤ n
      · right; simp; omega
      · left; simp; omega
    rw [if_neg h]
    simp only [h1, cond_false]
    rfl
theorem hname_out {c : Nat} (h : c < 105 ∨ 116 < c) : hname c = 0 := by
  unfold hname
  rw [if_neg (by omega), if_neg (by omega), if_neg (by omega), if_neg (by omega), if_neg (by omega), if_neg (by omega), if_neg (by omega), if_neg (by omega), if_neg (by omega), if_neg (by omega), if_neg (by omega), if_neg (by omega)]
end Go.Proofs.Ytofbbijagbpicaa.Pi.Q
namespace Go.Proofs.Ytofbbijagbpicaa.Pi.Q
open Go Go.Proofs.Ytofbbijagbpicaa.Pi
set_option linter.unusedVariables false
set_option linter.unusedSimpArgs false
set_option maxRecDepth 100000
attribute [local congr] ite_congr
structure VT where
  num : Int
  nul : Bool
  heap : Int
  deriving DecidableEq
def encV (v : VT) : PV := .agg [.int .i64 v.num, .bool v.nul, .int .i64 v.heap]
theorem ns (p : Nat) : ((p + 1 : Nat) : Int) = (p : Int) + 1 := rfl
end Go.Proofs.Ytofbbijagbpicaa.Pi.Q
namespace Go.Proofs.Ytofbbijagbpicaa.Pi.Q
open Go Go.Proofs.Ytofbbijagbpicaa.Pi
set_option linter.unusedVariables false
set_option linter.unusedSimpArgs false
set_option maxRecDepth 100000
attribute [local congr] ite_congr
def accP (sz : Nat) (l : List PV) : PV := match l with | [] => .slice false true 0 [] | l => .slice true false sz l
theorem ap_acc {H : Heap} {sz b : Nat} {l : List PV} {v : PV} {o : Bool} (h : (l.length + 1) * max b 1 ≤ 140737488355328) :
    run (ap true sz b (accP sz l) (.slice o false sz [v])) H = some (.ok (accP sz (l ++ [v])) H) := by
  cases l with
  | nil =>
    unfold accP run ap tail growB
    have h2 : max b 1 ≤ 140737488355328 := by simpa using h
    simp [h2, M.pure]
  | cons x r =>
    unfold accP run ap tail growB
    have h2 : ((x :: r).length + [v].length) * max b 1 ≤ 140737488355328 := by simpa using h
    simp only [beq_self_eq_true, Bool.or_true, cond_true, cond_false, Bool.true_and, decide_eq_true h2]
    rfl
theorem isTup_acc {sz : Nat} {l : List PV} : isTup (accP sz l) = false := by unfold accP; split <;> rfl
theorem low_acc {sz n : Nat} {l : List PV} : (accP sz l).low n = true := by unfold accP; split <;> simp [low_slice]
theorem cells_acc {sz : Nat} {l : List PV} : (accP sz l).cells = [accP sz l] := by unfold accP; split <;> rfl
theorem isCell_acc {sz : Nat} {l : List PV} : isCell (accP sz l) = true := by unfold accP; split <;> rfl
structure BK where
  ty : Int
  res : VT
  deriving DecidableEq
end Go.Proofs.Ytofbbijagbpicaa.Pi.Q
namespace Go.Proofs.Ytofbbijagbpicaa.Pi.Q
open Go Go.Proofs.Ytofbbijagbpicaa.Pi
set_option linter.unusedVariables false
set_option linter.unusedSimpArgs false
set_option maxRecDepth 100000
attribute [local congr] ite_congr
theorem run_ta {H : Heap} {t : TypeId} {zv v : PV} : run (ta t zv false (.iface t v)) H = some (.ok v H) := by
  unfold run ta
  simp [M.pure]
theorem run_mf {H : Heap} {f : FuncId} {a b : List PV} : run (mf f a b) H = if (a.all isVal && b.all isVal) = true then some (.ok (.fn f (a.map stripC) (b.map stripC)) H) else none := by
  unfold run mf
  cases (a.all isVal && b.all isVal) <;> rfl
theorem bi_if {a : PV} {t : TypeId} {H : Heap} : run (bi .neq .iface (.iface t a) .niliface) H = some (.ok (.bool true) H) := nrfl rfl
theorem bi_ifn {H : Heap} : run (bi .neq .iface .niliface .niliface) H = some (.ok (.bool false) H) := nrfl rfl
theorem cutL {H : Heap} {L : List Box} (k : Nat) : hcut (hadd H L) (H.length + k) = hadd H (L.take k) := by unfold hcut hadd; rw [List.take_append, List.take_of_length_le (by omega), Nat.add_sub_cancel_left]
theorem ne_len0 {n k : Nat} : (n + (k + 1) == n) = false := by simp
end Go.Proofs.Ytofbbijagbpicaa.Pi.Q
namespace Go.Proofs.Ytofbbijagbpicaa.Pi.Q
open Go Go.Proofs.Ytofbbijagbpicaa.Pi
set_option linter.unusedVariables false
set_option linter.unusedSimpArgs false
set_option maxRecDepth 100000
attribute [local congr] ite_congr
theorem rabs_is {H : Heap} {c : Nat} : run (C k_ratchetref08_abstract [.int .u8 c]) H = some (.ok (.int .i64 (hname c)) H) := by
  rw [ratchetref08_abstract_eq]
  by_cases h : c < 105 ∨ 116 < c
  · rw [hname_out h]
    have e115 : ((c : Int) = 115) = False := eq_false (by omega)
    have e114 : ((c : Int) = 114) = False := eq_false (by omega)
    have e113 : ((c : Int) = 113) = False := eq_false (by omega)
    have e112 : ((c : Int) = 112) = False := eq_false (by omega)
    have e111 : ((c : Int) = 111) = False := eq_false (by omega)
    have e110 : ((c : Int) = 110) = False := eq_false (by omega)
    have e109 : ((c : Int) = 109) = False := eq_false (by omega)
    have e108 : ((c : Int) = 108) = False := eq_false (by omega)
    have e107 : ((c : Int) = 107) = False := eq_false (by omega)
    have e106 : ((c : Int) = 106) = False := eq_false (by omega)
    have e105 : ((c : Int) = 105) = False := eq_false (by omega)
    have e116 : ((c : Int) = 116) = False := eq_false (by omega)
    simp (dsimp := false) (disch := omega) only [↓goDown, goUp, List.length_cons, List.length_nil, List.map_cons, List.map_nil, List.take_succ_cons, List.take_zero, List.drop_succ_cons, List.drop_zero, List.drop_nil, List.take_nil, List.cons_append, List.nil_append, List.append_nil, List.set_cons_zero, List.set_cons_succ, List.all_cons, List.all_nil, ↓reduceIte, reduceCtorEq, ge_iff_le, gt_iff_lt, eq_self_iff_true, beq_self_eq_true, beq_iff_eq, bne_iff_ne, ne_eq, ite_not, Int.reduceEq, Option.getD_some, Option.getD_none, ite_self, Nat.reduceAdd, Nat.reduceSub, Nat.reduceMul, Nat.reduceLeDiff, Nat.reduceEqDiff, Nat.reduceBEq, Nat.reduceBNe, Int.reduceLT, Int.reduceLE, Int.reduceAdd, Int.reduceSub, Int.reduceMul, Int.reduceNeg, Int.reduceNe, Int.reduceBEq, Int.reduceBNe, Int.reduceToNat, e115, e114, e113, e112, e111, e110, e109, e108, e107, e106, e105, e116]
  · have h : c = 105 ∨ c = 106 ∨ c = 107 ∨ c = 108 ∨ c = 109 ∨ c = 110 ∨ c = 111 ∨ c = 112 ∨ c = 113 ∨ c = 114 ∨ c = 115 ∨ c = 116 := by omega
    rcases h with rfl | rfl | rfl | rfl | rfl | rfl | rfl | rfl | rfl | rfl | rfl | rfl <;>
      simp (dsimp := false) (disch := omega) only [↓goDown, goUp, List.length_cons, List.length_nil, List.map_cons, List.map_nil, List.take_succ_cons, List.take_zero, List.drop_succ_cons, List.drop_zero, List.drop_nil, List.take_nil, List.cons_append, List.nil_append, List.append_nil, List.set_cons_zero, List.set_cons_succ, List.all_cons, List.all_nil, ↓reduceIte, reduceCtorEq, ge_iff_le, gt_iff_lt, eq_self_iff_true, beq_self_eq_true, beq_iff_eq, bne_iff_ne, ne_eq, ite_not, Int.reduceEq, Option.getD_some, Option.getD_none, ite_self, Nat.reduceAdd, Nat.reduceSub, Nat.reduceMul, Nat.reduceLeDiff, Nat.reduceEqDiff, Nat.reduceBEq, Nat.reduceBNe, Int.reduceLT, Int.reduceLE, Int.reduceAdd, Int.reduceSub, Int.reduceMul, Int.reduceNeg, Int.reduceNe, Int.reduceBEq, Int.reduceBNe, Int.reduceToNat, Int.cast_ofNat_Int] <;> rfl
end Go.Proofs.Ytofbbijagbpicaa.Pi.Q
namespace Go.Proofs.Ytofbbijagbpicaa.Pi.Q
open Go Go.Proofs.Ytofbbijagbpicaa.Pi
set_option linter.unusedVariables false
set_option linter.unusedSimpArgs false
set_option maxRecDepth 100000
attribute [local congr] ite_congr
theorem ap_nil1 {H : Heap} {v : PV} : run (ap true 1 1 (.slice false true 0 []) (.slice true false 1 [v])) H = some (.ok (.slice true false 1 [v]) H) := nrfl rfl
theorem bs_byte {H : Heap} {k : IntKind} {n : Int} : run (bs true none [.int k n]) H = some (.ok (.slice true false 1 [.int k n]) H) := nrfl rfl
theorem bsR_byte {H : Heap} {k : IntKind} {n : Int} : bsR true none [.int k n] H = some (.ok (.slice true false 1 [.int k n]) H) := by simp [bsR, isFlatElem, PV.flat]
theorem cv_127 {H : Heap} {o z p : Bool} {s : Nat} : run (cv .bytesToStr p (.slice o z s [.int .u8 127])) H = some (.ok (.str ⟨#[127]⟩) H) := nrfl rfl
theorem str_eq {H : Heap} {s : ByteArray} : run (bi .eql .none (.str s) (.str s)) H = some (.ok (.bool true) H) := by
  show some (Out.ok (PV.bool (s.toList == s.toList)) H) = _
  rw [beq_self_eq_true]
theorem awake_is {H : Heap} : run (C k_ratchetlaw08_awake []) H = some (.ok (.bool true) H) := by
  rw [ratchetlaw08_awake_eq]
  simp (contextual := true) (dsimp := false) (disch := omega) only [↓goDown, goUp, List.length_cons, List.length_nil, List.map_cons, List.map_nil, List.take_succ_cons, List.take_zero, List.drop_succ_cons, List.drop_zero, List.drop_nil, List.take_nil, List.cons_append, List.nil_append, List.append_nil, List.set_cons_zero, List.set_cons_succ, List.all_cons, List.all_nil, ↓reduceIte, reduceCtorEq, ge_iff_le, gt_iff_lt, eq_self_iff_true, beq_self_eq_true, beq_iff_eq, bne_iff_ne, ne_eq, ite_not, Int.reduceEq, Option.getD_some, Option.getD_none, ite_self, Nat.reduceAdd, Nat.reduceSub, Nat.reduceMul, Nat.reduceLeDiff, Nat.reduceEqDiff, Nat.reduceBEq, Nat.reduceBNe, Int.reduceLT, Int.reduceLE, Int.reduceAdd, Int.reduceSub, Int.reduceMul, Int.reduceNeg, Int.reduceNe, Int.reduceBEq, Int.reduceBNe, Int.reduceToNat, entry_PutValType_eq, entry_PutValType_1_eq, entry_write_eq, entry_pen_val_eq, entry_pen_must_eq, entry_pen_byte_eq, entry_write_1_deq, un_not, run_mf, bi_ifn, ap_nil1, bs_byte, bsR_byte, cv_127, str_eq, cutL]
end Go.Proofs.Ytofbbijagbpicaa.Pi.Q
namespace Go.Proofs.Ytofbbijagbpicaa.Pi.Q
open Go Go.Proofs.Ytofbbijagbpicaa.Pi
set_option linter.unusedVariables false
set_option linter.unusedSimpArgs false
set_option maxRecDepth 100000
attribute [local congr] ite_congr
structure FT where
  ty : VT
  mu : Bool
  deriving DecidableEq
def encF (v : FT) : PV := .agg [.int .i64 v.ty.num, .bool v.ty.nul, .int .i64 v.ty.heap, .bool v.mu]
end Go.Proofs.Ytofbbijagbpicaa.Pi.Q
namespace Go.Proofs.Ytofbbijagbpicaa.Pi.Q
open Go Go.Proofs.Ytofbbijagbpicaa.Pi
set_option linter.unusedVariables false
set_option linter.unusedSimpArgs false
set_option maxRecDepth 100000
attribute [local congr] ite_congr
abbrev encI (v : Int) : PV := .int .i64 v
def shutP (sz : Nat) (l : List PV) : PV := match l with | [] => .slice false true 0 [] | l => .slice false false sz l
theorem stripC_acc {sz : Nat} {l : List PV} : stripC (accP sz l) = shutP sz l := by cases l <;> rfl
structure CT where
  kind : Int
  ps : List VT
  rs : List VT
  fs : List FT
  deriving DecidableEq
structure ST where
  fin : Bool
  sup : List Int
  comp : CT
  deriving DecidableEq
end Go.Proofs.Ytofbbijagbpicaa.Pi.Q
namespace Go.Proofs.Ytofbbijagbpicaa.Pi.Q
open Go Go.Proofs.Ytofbbijagbpicaa.Pi
set_option linter.unusedVariables false
set_option linter.unusedSimpArgs false
set_option maxRecDepth 100000
attribute [local congr] ite_congr
structure RT where
  types : List ST
  exp : Bool
  deriving DecidableEq
end Go.Proofs.Ytofbbijagbpicaa.Pi.Q
namespace Go.Proofs.Ytofbbijagbpicaa.Pi.Q
open Go Go.Proofs.Ytofbbijagbpicaa.Pi
set_option linter.unusedVariables false
set_option linter.unusedSimpArgs false
set_option maxRecDepth 100000
attribute [local congr] ite_congr
def CT.fit (v : CT) : Prop := v.ps.length < 2 ^ 62 ∧ v.rs.length < 2 ^ 62 ∧ v.fs.length < 2 ^ 62
def ST.fit (v : ST) : Prop := v.sup.length < 2 ^ 62 ∧ v.comp.fit
def RT.fit (v : RT) : Prop := v.types.length < 2 ^ 62 ∧ ∀ t ∈ v.types, t.fit
end Go.Proofs.Ytofbbijagbpicaa.Pi.Q
namespace Go.Proofs.Ytofbbijagbpicaa.Pi
open Go.ChangeShapes Go.WideShapes
set_option linter.unusedVariables false
set_option linter.unusedSimpArgs false
def litPV : Lit → PV
  | .int k n => .int k n
  | .bool b => .bool b
  | .string s => .str ⟨s.toArray⟩
  | _ => .undef
def wrapE (P : Program) (e : TypeId) (cs : List PV) : PV :=
  match tagg P e with
  | some _ => .agg cs
  | none => cs.headD .undef
mutual
def toldD {H : Type} (P : Program) : TypeId → DataW H → List PV
  | t, .lit l => [litPV l]
  | t, .nil => match P.underlying t with
    | some (.slice e) => [.slice false true 0 []]
    | _ => [.nil]
  | t, .slice elems _ => match P.underlying t with
    | some (.slice e) => [.slice false false (P.cellsOf e) (toldE P e elems)]
    | _ => []
  | t, .agg parts => match P.underlying t with
    | some (.struct fs) => toldF P fs.toList parts
    | _ => []
  | _, _ => []
def toldE {H : Type} (P : Program) (e : TypeId) : List (DataW H) → List PV
  | [] => []
  | d :: r => wrapE P e (toldD P e d) :: toldE P e r
def toldF {H : Type} (P : Program) : List Field → List (DataW H) → List PV
  | f :: fs, d :: r => toldD P f.type d ++ toldF P fs r
  | _, _ => []
end
def laidF (P : Program) : Nat → List Field → Option Nat
  | o, [] => some o
  | o, f :: r => bif f.offset == o then laidF P (o + P.cellsOf f.type) r else none
def plainT (P : Program) (T : List TypeId) (t : TypeId) : Bool :=
  match P.underlying t with
  | some .bool | some (.int _) | some .string => P.cellsOf t == 1 && (tagg P t).isNone
  | some (.slice e) => T.contains e && (decide (0 < P.cellsOf e) && (P.cellsOf t == 1 && (tagg P t).isNone))
  | some (.struct fs) => fs.toList.all (fun f => T.contains f.type) && (laidF P 0 fs.toList == some (P.cellsOf t) && (tagg P t).isSome)
  | _ => false
theorem wrap_cells {P : Program} {T : List TypeId} {e : TypeId} (he : plainT P T e = true) {cs : List PV} (hl : cs.length = P.cellsOf e) (hc : ∀ (j : Nat) (c : PV), cs[j]? = some c → isCell c = true) : (wrapE P e cs).cells = cs := by
  have one : P.cellsOf e = 1 → (tagg P e).isNone = true → (wrapE P e cs).cells = cs := fun h1 h2 => by
    obtain ⟨c, rfl⟩ : ∃ c, cs = [c] := by
      cases cs with
      | nil => simp at hl; omega
      | cons c r =>
        cases r with
        | nil => exact ⟨c, rfl⟩
        | cons d r => simp at hl; omega
    have hcell := hc 0 c rfl
    unfold wrapE
    cases ht : tagg P e with
    | some _ => rw [ht] at h2; cases h2
    | none =>
      simp only [List.headD_cons]
      cases c <;> first | rfl | cases hcell
  unfold plainT at he
  split at he
  · simp only [Bool.and_eq_true, beq_iff_eq] at he; exact one he.1 he.2
  · simp only [Bool.and_eq_true, beq_iff_eq] at he; exact one he.1 he.2
  · simp only [Bool.and_eq_true, beq_iff_eq] at he; exact one he.1 he.2
  · simp only [Bool.and_eq_true, beq_iff_eq] at he; exact one he.2.2.1 he.2.2.2
  · simp only [Bool.and_eq_true, beq_iff_eq] at he
    unfold wrapE
    cases ht : tagg P e with
    | some _ => rfl
    | none => rw [ht] at he; cases he.2.2
  · cases he
def ToldOk (W : World) (cs : List Value) (ps : List PV) : Prop :=
  ps.length = cs.length ∧ ∀ (j : Nat) (c : PV), ps[j]? = some c → isCell c = true ∧ ∀ v, cs[j]? = some v → RepF (imOf W) c v
theorem ToldOk.one {W : World} {c : PV} {v : Value} (h1 : isCell c = true) (h2 : RepF (imOf W) c v) : ToldOk W [v] [c] :=
  ⟨rfl, fun j d hd => by
    cases j with
    | zero => simp at hd; subst hd; exact ⟨h1, fun u hu => by simp at hu; subst hu; exact h2⟩
    | succ j => simp at hd⟩
variable {H : Type} {enc : TypeId × Value → H} {P : Program} {W : World} {base : Nat} {spare : Nat → Bool} {held : Bool} {T : List TypeId}
theorem cells_spot {W : World} {a : Addr} {n : Nat} {l : List Value} (hn : 0 < n) (h : W.cells? base a n = some l) : a.spot = none := by
  unfold World.cells? at h
  split at h
  · have h0 := mapM_some_get h 0 0 (by simp [hn])
    have : a.add 0 = a := by simp [Addr.add]
    rw [this] at h0
    unfold World.cell? at h0
    cases hs : a.spot with
    | none => rfl
    | some x =>
      rw [hs] at h0
      have hl := mapM_some_length h
      have hlt : 0 < l.length := by rw [hl]; simpa using hn
      rw [List.getElem?_eq_getElem hlt] at h0
      split at h0 <;> simp at h0
  · cases h
theorem cells_get {W : World} {a : Addr} {n : Nat} {l : List Value} (h : W.cells? base a n = some l) (hs : a.spot = none) : l.length = n ∧ ∀ (j : Nat) (v : Value), l[j]? = some v → W.cell? ⟨a.block, a.off + j, none⟩ = some v := by
  unfold World.cells? at h
  split at h
  · refine ⟨by simpa using mapM_some_length h, fun j v hv => ?_⟩
    have hj : j < n := by
      have := (List.getElem?_eq_some_iff.mp hv).1
      have h2 := mapM_some_length h
      simp at h2
      omega
    have h0 := mapM_some_get h j j (by simp [hj])
    rw [hv] at h0
    have : a.add j = ⟨a.block, a.off + j, none⟩ := by
      obtain ⟨b, o, sp⟩ := a
      simp only at hs
      subst hs
      unfold Addr.add
      split <;> simp_all
    rw [this] at h0
    exact h0
  · cases h
theorem toldE_get {P : Program} {e : TypeId} : ∀ (l : List (DataW H)) (i : Nat), (toldE P e l)[i]? = l[i]?.map fun d => wrapE P e (toldD P e d)
  | [], i => by simp [toldE]
  | d :: r, 0 => by simp [toldE]
  | d :: r, i + 1 => by simpa [toldE] using toldE_get r i
theorem toldE_length {P : Program} {e : TypeId} : ∀ (l : List (DataW H)), (toldE P e l).length = l.length
  | [] => rfl
  | d :: r => by simp [toldE, toldE_length r]
theorem ToldOk.append {W : World} {cs ds : List Value} {ps qs : List PV} (h : ToldOk W cs ps) (k : ToldOk W ds qs) : ToldOk W (cs ++ ds) (ps ++ qs) := by
  refine ⟨by simp [h.1, k.1], fun j c hc => ?_⟩
  by_cases hj : j < ps.length
  · rw [List.getElem?_append_left hj] at hc
    obtain ⟨h1, h2⟩ := h.2 j c hc
    refine ⟨h1, fun v hv => h2 v ?_⟩
    rwa [List.getElem?_append_left (by rw [← h.1]; exact hj)] at hv
  · rw [List.getElem?_append_right (by omega)] at hc
    obtain ⟨h1, h2⟩ := k.2 _ c hc
    refine ⟨h1, fun v hv => h2 v ?_⟩
    rwa [List.getElem?_append_right (by rw [← h.1]; omega), ← h.1] at hv
theorem told_fields (n : Nat) (ok : ∀ (t : TypeId) (cs : List Value) (x : DataW H × List MemPlace), T.contains t = true → DataW.trod enc P W base spare held n t cs = some x → cs.length = P.cellsOf t ∧ ToldOk W cs (toldD P t x.1)) (cs : List Value) :
    ∀ (fs : List Field) (o : Nat) (xs : List (DataW H × List MemPlace)), (∀ f ∈ fs, T.contains f.type = true) → laidF P o fs = some cs.length → xs.length = fs.length →
      (∀ (i : Nat) (f : Field), fs[i]? = some f → DataW.trod enc P W base spare held n f.type ((cs.drop f.offset).take (P.cellsOf f.type)) = xs[i]?) → o ≤ cs.length ∧ ToldOk W (cs.drop o) (toldF P fs (xs.map (·.1)))
  | [], o, xs, hT, hl, hx, h => by
    simp only [laidF, Option.some.injEq] at hl
    subst hl
    obtain rfl : xs = [] := List.eq_nil_of_length_eq_zero (by simpa using hx)
    exact ⟨Nat.le_refl _, by simp [toldF], by simp [toldF]⟩
  | f :: fs, o, xs, hT, hl, hx, h => by
    unfold laidF at hl
    cases ho : (f.offset == o) with
    | false => rw [ho] at hl; cases hl
    | true =>
      rw [ho] at hl
      simp only [cond_true] at hl
      obtain rfl : f.offset = o := by simpa using ho
      cases xs with
      | nil => simp at hx
      | cons y ys =>
        have h0 := h 0 f rfl
        simp only [List.getElem?_cons_zero] at h0
        obtain ⟨l1, l2⟩ := ok f.type _ y (hT f (by simp)) h0
        obtain ⟨k1, k2⟩ := told_fields n ok cs fs _ ys (fun g hg => hT g (by simp [hg])) hl (by simpa using hx) (fun i g hg => by
          have := h (i + 1) g (by simpa using hg)
          simpa using this)
        refine ⟨by omega, ?_⟩
        have e1 : cs.drop f.offset = (cs.drop f.offset).take (P.cellsOf f.type) ++ cs.drop (f.offset + P.cellsOf f.type) := by
          rw [← List.drop_drop, List.take_append_drop]
        rw [e1]
        simp only [List.map_cons, toldF]
        exact l2.append k2
theorem told_ok (hT : T.all (plainT P T) = true) (hsp : ∀ b, spare b = true) : ∀ (n : Nat) (t : TypeId) (cs : List Value) (x : DataW H × List MemPlace), T.contains t = true → DataW.trod enc P W base spare held n t cs = some x → cs.length = P.cellsOf t ∧ ToldOk W cs (toldD P t x.1) := by
  intro n
  induction n with
  | zero => intro t cs x _ h; simp [DataW.trod] at h
  | succ n ih =>
  intro t cs x ht h
  have hp : plainT P T t = true := List.all_eq_true.mp hT t (by simpa using ht)
  have hp0 := hp
  unfold plainT at hp
  split at hp
  · rename_i hu
    simp only [Bool.and_eq_true, beq_iff_eq] at hp
    obtain ⟨b, rfl, rfl⟩ := DataW.trod_bool hu h
    refine ⟨by simp [hp.1], ?_⟩
    simp only [toldD, litPV]
    exact .one rfl (.bool b)
  · rename_i k hu
    simp only [Bool.and_eq_true, beq_iff_eq] at hp
    obtain ⟨m, rfl, rfl, _⟩ := DataW.trod_int hu h
    refine ⟨by simp [hp.1], ?_⟩
    simp only [toldD, litPV]
    exact .one rfl (.int k m)
  · rename_i hu
    simp only [Bool.and_eq_true, beq_iff_eq] at hp
    obtain ⟨s, rfl, rfl, _⟩ := DataW.trod_string hu h
    refine ⟨by simp [hp.1], ?_⟩
    simp only [toldD, litPV]
    have e : (⟨s.data.toList.toArray⟩ : ByteArray) = s := by rw [Array.toArray_toList]
    rw [e]
    exact .one rfl (.str s)
  · rename_i e hu
    simp only [Bool.and_eq_true, beq_iff_eq, decide_eq_true_eq] at hp
    obtain ⟨he, hz, h1, _⟩ := hp
    have hpe : plainT P T e = true := List.all_eq_true.mp hT e (by simpa using he)
    rcases DataW.trod_slice hu h with ⟨rfl, rfl⟩ | ⟨a, len, cap, elems, rest, m, hm, rfl, rfl, hb, hlc, hcm, hlen, hel, hre, hno⟩
    · refine ⟨by simp [h1], ?_⟩
      simp only [toldD, hu]
      exact .one rfl (.snil 0)
    · obtain rfl : m = n := by omega
      refine ⟨by simp [h1], ?_⟩
      simp only [toldD, hu]
      have each : ∀ (i : Nat) (y : DataW H × List MemPlace), elems[i]? = some y → ∃ l : List Value, W.cells? base (a.add (i * P.cellsOf e)) (P.cellsOf e) = some l ∧ l.length = P.cellsOf e ∧ ToldOk W l (toldD P e y.1) := by
        intro i y hy
        have hi : i < len := by
          have := (List.getElem?_eq_some_iff.mp hy).1
          omega
        have := hel i hi
        rw [hy, Option.bind_eq_some_iff] at this
        obtain ⟨l, hl, hd⟩ := this
        obtain ⟨q1, q2⟩ := ih e l y he hd
        exact ⟨l, hl, q1, q2⟩
      have spot : a.spot = none ∨ cap = 0 := by
        by_cases hc : cap = 0
        · exact .inr hc
        · left
          have add0 : a.add (0 * P.cellsOf e) = a := by simp [Addr.add]
          by_cases hl0 : len = 0
          · obtain ⟨r1, r2⟩ := hre (hsp _)
            have := r2 0 (by omega)
            have hlt : 0 < rest.length := by omega
            rw [List.getElem?_eq_getElem hlt, Option.bind_eq_some_iff] at this
            obtain ⟨l, hl, _⟩ := this
            rw [hl0] at hl
            rw [show (0 + 0) * P.cellsOf e = 0 * P.cellsOf e by simp, add0] at hl
            exact cells_spot hz hl
          · have hlt : 0 < elems.length := by omega
            obtain ⟨l, hl, _⟩ := each 0 _ (List.getElem?_eq_getElem hlt)
            rw [add0] at hl
            exact cells_spot hz hl
      obtain ⟨g, o, sp⟩ := a
      have hcap : cap = 0 → elems = [] := fun h => List.eq_nil_of_length_eq_zero (by omega)
      have hL : (toldE P e (elems.map (·.1))).length = len := by rw [toldE_length, List.length_map, hlen]
      have hget : ∀ (i : Nat) (x : PV), (toldE P e (elems.map (·.1)))[i]? = some x → sp = none ∧ ∃ l : List Value, (∀ (j : Nat) (v : Value), l[j]? = some v → imOf W g (o + i * P.cellsOf e + j) = some v) ∧ l.length = P.cellsOf e ∧ x.cells.length = P.cellsOf e ∧ ∀ (j : Nat) (c : PV), x.cells[j]? = some c → ∀ v, l[j]? = some v → RepF (imOf W) c v := by
        intro i x hx
        rw [toldE_get, List.getElem?_map] at hx
        cases hy : elems[i]? with
        | none => rw [hy] at hx; simp at hx
        | some y =>
          rw [hy] at hx
          simp only [Option.map_some, Option.some.injEq] at hx
          have hsn : sp = none := by
            rcases spot with h | h
            · exact h
            · rw [hcap h] at hy; simp at hy
          subst hsn
          obtain ⟨l, hl, q1, q2⟩ := each i y hy
          have hadd : (⟨g, o, none⟩ : Addr).add (i * P.cellsOf e) = ⟨g, o + i * P.cellsOf e, none⟩ := by unfold Addr.add; split <;> simp_all
          rw [hadd] at hl
          obtain ⟨_, q3⟩ := cells_get hl rfl
          have hw := wrap_cells hpe (cs := toldD P e y.1) (by rw [q2.1, q1]) (fun j c hc => (q2.2 j c hc).1)
          rw [hx] at hw
          refine ⟨rfl, l, fun j v hv => q3 j v hv, q1, by rw [hw, q2.1, q1], fun j c hc v hv => ?_⟩
          rw [hw] at hc
          exact (q2.2 j c hc).2 v hv
      have hrep := RepF.slice (im := imOf W) (g := g) (o := o) (cap := cap) (sz := P.cellsOf e) (sp := sp) (xs := toldE P e (elems.map (·.1))) (fun i j => (imOf W g (o + i * P.cellsOf e + j)).getD .nilIface) spot (by omega)
        (fun i x hx => (hget i x hx).2.choose_spec.2.2.1)
        (fun i x j c hx hc => by
          obtain ⟨_, l, l1, l2, l3, l4⟩ := hget i x hx
          have hj : j < l.length := by
            have := (List.getElem?_eq_some_iff.mp hc).1
            omega
          rw [l1 j _ (List.getElem?_eq_getElem hj)]
          rfl)
        (fun i x j c hx hc => by
          obtain ⟨_, l, l1, l2, l3, l4⟩ := hget i x hx
          have hj : j < l.length := by
            have := (List.getElem?_eq_some_iff.mp hc).1
            omega
          rw [l1 j _ (List.getElem?_eq_getElem hj)]
          exact l4 j c hc _ (List.getElem?_eq_getElem hj))
      rw [hL] at hrep
      exact .one rfl hrep
  · rename_i fs hu
    simp only [Bool.and_eq_true, beq_iff_eq, List.all_eq_true] at hp
    obtain ⟨hTf, hlaid, _⟩ := hp
    obtain ⟨xs, m, hm, rfl, hcl, hxl, hx⟩ := DataW.trod_struct hu h
    obtain rfl : m = n := by omega
    refine ⟨hcl, ?_⟩
    simp only [toldD, hu]
    have := told_fields (T := T) m (fun t cs x ht hk => ih t cs x ht hk) cs fs.toList 0 xs (fun f hf => hTf f hf) (by rw [hcl]; exact hlaid) (by simpa using hxl) (fun i f hf => hx i f (by simpa using hf))
    simpa using this.2
  · cases hp
end Go.Proofs.Ytofbbijagbpicaa.Pi
namespace Go.Proofs.Ytofbbijagbpicaa.Pi
set_option linter.unusedVariables false
set_option linter.unusedSimpArgs false
def LZ (z : Bool) (sz : Nat) (l : List PV) : PV := match l with | [] => .slice false z (if z then 0 else sz) [] | l => .slice false false sz l
structure GL (α : Type) where
  z : Bool
  l : List α
  deriving DecidableEq
section
variable {z : Bool} {sz : Nat} {l : List PV} {H : Heap}
theorem isTup_Z : isTup (LZ z sz l) = false := by cases l <;> rfl
theorem isCell_Z : isCell (LZ z sz l) = true := by cases l <;> rfl
theorem cells_Z : (LZ z sz l).cells = [LZ z sz l] := by cases l <;> rfl
theorem low_Z {n : Nat} : (LZ z sz l).low n = true := by cases l <;> simp [LZ, low_slice]
theorem strip_Z : strip (LZ z sz l) = LZ z sz l := by cases l <;> rfl
theorem stripC_Z : stripC (LZ z sz l) = LZ z sz l := by cases l <;> rfl
theorem ln_Z : run (lnL (LZ z sz l)) H = some (.ok (.int .i64 l.length) H) := by cases l <;> rfl
theorem ia_Z {i : Nat} {x : PV} (h : l[i]? = some x) : run (iaS sz (LZ z sz l) (.int .i64 i)) H = some (.ok (.elem x.cells) H) := by
  cases l with
  | nil => simp at h
  | cons a r =>
    show run (iaS sz (.slice false false sz (a :: r)) (.int .i64 i)) H = _
    rw [run_iaS (by omega), Int.toNat_natCast, h]
    rfl
end
theorem shut_LZ {sz : Nat} {l : List PV} : Q.shutP sz l = LZ true sz l := by cases l <;> rfl
end Go.Proofs.Ytofbbijagbpicaa.Pi
namespace Go.Proofs.Ytofbbijagbpicaa.Pi
open Go.ChangeShapes Go.WideShapes
set_option linter.unusedVariables false
set_option linter.unusedSimpArgs false
mutual
def bulk {H : Type} : DataW H → Nat
  | .lit (.string bytes) => bytes.length + 1
  | .lit _ => 1
  | .nil => 1
  | .ptr d => bulk d + 1
  | .slice elems spare => bulkL elems + bulkL spare + 1
  | .agg parts => bulkL parts + 1
  | _ => 1
def bulkL {H : Type} : List (DataW H) → Nat
  | [] => 0
  | d :: r => bulk d + bulkL r
end
section
variable {H : Type} {enc : TypeId × Value → H} {P : Program} {W : World} {base : Nat} {spare : Nat → Bool} {held : Bool} {A B : Type} {n : Nat} {t e : TypeId}
structure DecArgs (H : Type) where
  enc : TypeId × Value → H
  P : Program
  W : World
  base : Nat
  spare : Nat → Bool
  held : Bool
variable (G : DecArgs H)
def Dec (n : Nat) (t : TypeId) (cells : A → List PV) (ok : A → Prop) (ms : A → Nat) : Prop :=
  ∀ cs x, DataW.trod G.enc G.P G.W G.base G.spare G.held n t cs = some x → ∃ a, toldD G.P t x.1 = cells a ∧ ok a ∧ ms a ≤ bulk x.1
def DecF (n : Nat) (fs : List Field) (cells : A → List PV) (ok : A → Prop) (ms : A → Nat) : Prop :=
  ∀ (xs : List (DataW H × List MemPlace)), xs.length = fs.length → (∀ (i : Nat) (f : Field), fs[i]? = some f → ∃ cs, DataW.trod G.enc G.P G.W G.base G.spare G.held n f.type cs = xs[i]?) →
    ∃ a, toldF G.P fs (xs.map (·.1)) = cells a ∧ ok a ∧ ms a ≤ bulkL (xs.map (·.1))
variable {G}
theorem dec_int {k : IntKind} (hu : G.P.underlying t = some (.int k)) : Dec G n t (fun m : Int => [.int k m]) (fun m => (Lit.int k m).wf = true) (fun _ => 1) := by
  intro cs x h
  obtain ⟨m, rfl, rfl, hw⟩ := DataW.trod_int hu h
  exact ⟨m, by simp [toldD, litPV], hw, by simp [bulk]⟩
theorem dec_bool (hu : G.P.underlying t = some .bool) : Dec G n t (fun b : Bool => [.bool b]) (fun _ => True) (fun _ => 1) := by
  intro cs x h
  obtain ⟨b, rfl, rfl⟩ := DataW.trod_bool hu h
  exact ⟨b, by simp [toldD, litPV], trivial, by simp [bulk]⟩
theorem decF_nil : DecF G n [] (fun _ : Unit => []) (fun _ => True) (fun _ => 0) := by
  intro xs hl _
  exact ⟨(), by simp [toldF], trivial, Nat.zero_le _⟩
theorem decF_cons {f : Field} {fs : List Field} {cA : A → List PV} {okA : A → Prop} {mA : A → Nat} {cB : B → List PV} {okB : B → Prop} {mB : B → Nat} (ha : Dec G n f.type cA okA mA) (hb : DecF G n fs cB okB mB) :
    DecF G n (f :: fs) (fun p : A × B => cA p.1 ++ cB p.2) (fun p => okA p.1 ∧ okB p.2) (fun p => mA p.1 + mB p.2) := by
  intro xs hl h
  cases xs with
  | nil => simp at hl
  | cons y ys =>
    obtain ⟨cs, h0⟩ := h 0 f rfl
    simp only [List.getElem?_cons_zero] at h0
    obtain ⟨a, a1, a2, a3⟩ := ha _ _ h0
    obtain ⟨b, b1, b2, b3⟩ := hb ys (by simpa using hl) (fun i g hg => by simpa using h (i + 1) g (by simpa using hg))
    exact ⟨(a, b), by simp only [List.map_cons, toldF, a1, b1], ⟨a2, b2⟩, by simp only [List.map_cons, bulkL]; omega⟩
theorem dec_struct {fs : Array Field} {l : List Field} (hu : G.P.underlying t = some (.struct fs)) (hl : fs.toList = l) {cells : A → List PV} {ok : A → Prop} {ms : A → Nat} (h : ∀ m, n = m + 1 → DecF G m l cells ok ms) : Dec G n t cells ok (fun a => ms a + 1) := by
  intro cs x hx
  obtain ⟨xs, m, hm, rfl, hcl, hxl, hxi⟩ := DataW.trod_struct hu hx
  subst hl
  obtain ⟨a, a1, a2, a3⟩ := h m hm xs (by simpa using hxl) (fun i f hf => ⟨_, hxi i f (by simpa using hf)⟩)
  exact ⟨a, by simp only [toldD, hu, a1], a2, by simp only [bulk]; omega⟩
theorem Dec.map {cells : A → List PV} {ok : A → Prop} {ms : A → Nat} (h : Dec G n t cells ok ms) (f : A → B) {cB : B → List PV} {okB : B → Prop} {mB : B → Nat} (hc : ∀ a, cells a = cB (f a)) (ho : ∀ a, ok a → okB (f a)) (hm : ∀ a, mB (f a) ≤ ms a) : Dec G n t cB okB mB := by
  intro cs x hx
  obtain ⟨a, a1, a2, a3⟩ := h cs x hx
  exact ⟨f a, by rw [a1, hc], ho a a2, Nat.le_trans (hm a) a3⟩
def sumL {A : Type} (m : A → Nat) : List A → Nat
  | [] => 0
  | a :: r => m a + sumL m r
theorem dec_elems {cells : A → List PV} {ok : A → Prop} {ms : A → Nat} (h : Dec G n e cells ok ms) {ec : A → PV} (hec : ∀ a, wrapE G.P e (cells a) = ec a) : ∀ (ys : List (DataW H × List MemPlace)), (∀ y ∈ ys, ∃ cs, DataW.trod G.enc G.P G.W G.base G.spare G.held n e cs = some y) →
    ∃ l : List A, toldE G.P e (ys.map (·.1)) = l.map ec ∧ (∀ a ∈ l, ok a) ∧ sumL ms l ≤ bulkL (ys.map (·.1)) ∧ l.length = ys.length
  | [], _ => ⟨[], by simp [toldE], by simp, by simp [sumL], rfl⟩
  | y :: ys, hy => by
    obtain ⟨cs, h0⟩ := hy y (by simp)
    obtain ⟨a, a1, a2, a3⟩ := h _ _ h0
    obtain ⟨l, l1, l2, l3, l4⟩ := dec_elems h hec ys (fun z hz => hy z (by simp [hz]))
    refine ⟨a :: l, ?_, ?_, ?_, by simp [l4]⟩
    · simp only [List.map_cons, toldE, a1, hec, l1]
    · intro b hb
      rcases List.mem_cons.mp hb with rfl | hb
      · exact a2
      · exact l2 b hb
    · simp only [List.map_cons, sumL, bulkL]; omega
theorem dec_list {cells : A → List PV} {ok : A → Prop} {ms : A → Nat} (hu : G.P.underlying t = some (.slice e)) (h : ∀ m, n = m + 1 → Dec G m e cells ok ms) {ec : A → PV} (hec : ∀ a, wrapE G.P e (cells a) = ec a) {sz : Nat} (hsz : G.P.cellsOf e = sz) :
    Dec G n t (fun g : GL A => [LZ g.z sz (g.l.map ec)]) (fun g => ∀ a ∈ g.l, ok a) (fun g => sumL ms g.l + 1) := by
  intro cs x hx
  rcases DataW.trod_slice hu hx with ⟨rfl, rfl⟩ | ⟨a, len, cap, elems, rest, m, hm, rfl, rfl, hb, hlc, hcm, hlen, hel, hre, hno⟩
  · exact ⟨⟨true, []⟩, by simp [toldD, hu, LZ], by simp, by simp [bulk, sumL]⟩
  · obtain ⟨l, l1, l2, l3, l4⟩ := dec_elems (h m hm) hec elems (fun y hy => by
      obtain ⟨i, hi⟩ := List.getElem?_of_mem hy
      have hlt : i < len := by
        have := (List.getElem?_eq_some_iff.mp hi).1
        omega
      have := hel i hlt
      rw [hi, Option.bind_eq_some_iff] at this
      obtain ⟨cs, _, hd⟩ := this
      exact ⟨cs, hd⟩)
    refine ⟨⟨false, l⟩, ?_, l2, by simp only [bulk]; omega⟩
    simp only [toldD, hu, l1, hsz]
    cases l <;> rfl
end
end Go.Proofs.Ytofbbijagbpicaa.Pi
namespace Go.Proofs.Ytofbbijagbpicaa.Pi
open Go.ChangeShapes Go.WideShapes
set_option linter.unusedVariables false
set_option linter.unusedSimpArgs false
theorem rep_agg {P : Program} {W : World} {base : Nat} {t : TypeId} {fs : Array Field} {v : Value} {ps : List PV} (hu : P.underlying t = some (.struct fs)) (hok : Value.okWide P W .any base t v) (ht : ToldOk W v.cells.toList ps) : Rep [] (imOf W) (.agg ps) v := by
  unfold Value.okWide at hok
  rw [hu] at hok
  obtain ⟨cs, rfl, _, _⟩ := hok
  obtain ⟨h1, h2⟩ := ht
  refine .agg (by simpa [Value.cells] using h1.symm) (fun j c hj => (h2 j c hj).1) fun j c v hc hv => .flat ((h2 j c hc).2 v (by simpa [Value.cells] using hv))
theorem args_nil {im : Nat → Nat → Option Value} : ArgsOk (gOf im) [] #[] := ⟨rfl, fun j p v hp => by simp at hp⟩
theorem args_cons {im : Nat → Nat → Option Value} {p : PV} {v : Value} {ps : List PV} {vs : List Value} (h : Rep [] im p v) (hs : strip p = p) (hr : ArgsOk (gOf im) ps vs.toArray) : ArgsOk (gOf im) (p :: ps) (v :: vs).toArray := by
  refine ⟨by have := hr.size; simp at this ⊢; exact this, fun j q u hq hu => ?_⟩
  cases j with
  | zero =>
    simp at hq hu
    subst hq; subst hu
    exact ⟨.one (.pure h), hs⟩
  | succ j =>
    exact hr.rep j q u (by simpa using hq) (by simpa using hu)
end Go.Proofs.Ytofbbijagbpicaa.Pi
namespace Go.Proofs.Ytofbbijagbpicaa.Pi.Q
open Go Go.Proofs.Ytofbbijagbpicaa.Pi
set_option linter.unusedVariables false
def cs_V (v : VT) : List PV := [.int .i64 v.num, .bool v.nul, .int .i64 v.heap]
def ok_V (v : VT) : Prop := (Lit.int .i64 v.num).wf = true ∧ True ∧ (Lit.int .i64 v.heap).wf = true ∧ True
def ms_V (v : VT) : Nat := 1 + (1 + (1 + (0))) + 1
def cs_F (v : FT) : List PV := [.int .i64 v.ty.num, .bool v.ty.nul, .int .i64 v.ty.heap, .bool v.mu]
def ok_F (v : FT) : Prop := ok_V v.ty ∧ True ∧ True
def ms_F (v : FT) : Nat := ms_V v.ty + (1 + (0)) + 1
structure CG where
  kind : Int
  ps : GL (VT)
  rs : GL (VT)
  fs : GL (FT)
  deriving DecidableEq
def cs_CG (v : CG) : List PV := [.int .i64 v.kind, LZ v.ps.z 3 (v.ps.l.map encV), LZ v.rs.z 3 (v.rs.l.map encV), LZ v.fs.z 4 (v.fs.l.map encF)]
def ok_CG (v : CG) : Prop := (Lit.int .i64 v.kind).wf = true ∧ (∀ a ∈ v.ps.l, ok_V a) ∧ (∀ a ∈ v.rs.l, ok_V a) ∧ (∀ a ∈ v.fs.l, ok_F a) ∧ True
def ms_CG (v : CG) : Nat := 1 + ((sumL (fun a => ms_V a) v.ps.l + 1) + ((sumL (fun a => ms_V a) v.rs.l + 1) + ((sumL (fun a => ms_F a) v.fs.l + 1) + (0)))) + 1
structure SG where
  fin : Bool
  sup : GL (Int)
  comp : CG
  deriving DecidableEq
def cs_SG (v : SG) : List PV := [.bool v.fin, LZ v.sup.z 1 (v.sup.l.map encI), .int .i64 v.comp.kind, LZ v.comp.ps.z 3 (v.comp.ps.l.map encV), LZ v.comp.rs.z 3 (v.comp.rs.l.map encV), LZ v.comp.fs.z 4 (v.comp.fs.l.map encF)]
def ok_SG (v : SG) : Prop := True ∧ (∀ a ∈ v.sup.l, (Lit.int .i64 a).wf = true) ∧ ok_CG v.comp ∧ True
def ms_SG (v : SG) : Nat := 1 + ((sumL (fun a => 1) v.sup.l + 1) + (ms_CG v.comp + (0))) + 1
def encSG (v : SG) : PV := .agg [.bool v.fin, LZ v.sup.z 1 (v.sup.l.map encI), .int .i64 v.comp.kind, LZ v.comp.ps.z 3 (v.comp.ps.l.map encV), LZ v.comp.rs.z 3 (v.comp.rs.l.map encV), LZ v.comp.fs.z 4 (v.comp.fs.l.map encF)]
structure RG where
  types : GL (SG)
  exp : Bool
  deriving DecidableEq
def cs_RG (v : RG) : List PV := [LZ v.types.z 6 (v.types.l.map encSG), .bool v.exp]
def ok_RG (v : RG) : Prop := (∀ a ∈ v.types.l, ok_SG a) ∧ True ∧ True
def ms_RG (v : RG) : Nat := (sumL (fun a => ms_SG a) v.types.l + 1) + (1 + (0)) + 1
def encRG (v : RG) : PV := .agg [LZ v.types.z 6 (v.types.l.map encSG), .bool v.exp]
structure LT where
  wide : Bool
  min : Int
  max : Int
  has : Bool
  deriving DecidableEq
def cs_LT (v : LT) : List PV := [.bool v.wide, .int .u64 v.min, .int .u64 v.max, .bool v.has]
def ok_LT (v : LT) : Prop := True ∧ (Lit.int .u64 v.min).wf = true ∧ (Lit.int .u64 v.max).wf = true ∧ True ∧ True
def ms_LT (v : LT) : Nat := 1 + (1 + (1 + (1 + (0)))) + 1
def cs_B (v : BK) : List PV := [.int .i64 v.ty, .int .i64 v.res.num, .bool v.res.nul, .int .i64 v.res.heap]
def ok_B (v : BK) : Prop := (Lit.int .i64 v.ty).wf = true ∧ ok_V v.res ∧ True
def ms_B (v : BK) : Nat := 1 + (ms_V v.res + (0)) + 1
def CG.plain (v : CG) : CT := ⟨v.kind, v.ps.l, v.rs.l, v.fs.l⟩
def SG.plain (v : SG) : ST := ⟨v.fin, v.sup.l, v.comp.plain⟩
def RG.plain (v : RG) : RT := ⟨v.types.l.map SG.plain, v.exp⟩
end Go.Proofs.Ytofbbijagbpicaa.Pi.Q
namespace Go.Proofs.Ytofbbijagbpicaa.Pi.Q
open Go Go.Proofs.Ytofbbijagbpicaa.Pi
set_option linter.unusedVariables false
set_option linter.unusedSimpArgs false
set_option maxRecDepth 100000
attribute [local congr] ite_congr
def accB (b : List UInt8) : PV := accP 1 (bytes b)
theorem byt_of {n : Nat} (h : n < 256) : byt (UInt8.ofNat n) = .int .u8 n := by
  unfold byt
  rw [UInt8.toNat_ofNat', Nat.mod_eq_of_lt h]
theorem bsR_byt {n : Nat} (h : n < 256) {K : Heap} : bsR true none [.int .u8 n] K = some (.ok (.slice true false 1 [byt (UInt8.ofNat n)]) K) := by
  rw [byt_of h]
  rfl
theorem ap_B {acc : List UInt8} {c : UInt8} {K : Heap} (h : acc.length + 1 ≤ 140737488355328) : run (ap true 1 1 (accB acc) (.slice true false 1 [byt c])) K = some (.ok (accB (acc ++ [c])) K) := by
  have := ap_acc (H := K) (sz := 1) (b := 1) (l := bytes acc) (v := byt c) (o := true) (by simpa [bytes] using h)
  unfold accB
  rw [this]
  simp [bytes]
def putU (n : Nat) : List UInt8 := if n < 128 then [UInt8.ofNat n] else UInt8.ofNat (n % 128 + 128) :: putU (n / 128)
termination_by n
decreasing_by omega
theorem or128 : ∀ m : Fin 256, IntKind.u8.wrap (BitVec.ofInt 8 (m.val : Int) ||| BitVec.ofInt 8 128).toNat = ((m.val % 128 + 128 : Nat) : Int) := by decide +kernel
theorem or_byte (n : Nat) : bi .or .none (.int .u8 ((n % 256 : Nat) : Int)) (.int .u8 128) = M.pure (.int .u8 ((n % 128 + 128 : Nat) : Int)) := by
  rw [run_or]
  have := or128 ⟨n % 256, by omega⟩
  have e : n % 256 % 128 = n % 128 := by omega
  simp only [e] at this
  rw [show IntKind.u8.bits = 8 from rfl, this]
theorem shr7 (n : Nat) : bi .shr .none (.int .u64 (n : Int)) (.int .u64 7) = M.pure (.int .u64 ((n / 128 : Nat) : Int)) := by
  rw [run_shr (by omega)]
  have : (n : Int).fdiv (2 ^ shiftN .u64 7) = ((n / 128 : Nat) : Int) := by
    have e : (2 : Int) ^ shiftN .u64 7 = 128 := by decide
    rw [e]
    simp [Int.fdiv_eq_ediv]
  rw [this]
theorem putU_loop {H : Heap} {v2 : PV} : ∀ (m n : Nat) (acc : List UInt8), n < 128 ^ (m + 1) → n < 2 ^ 64 → acc.length + m < 1000 → run (p_leb_PutU_1100 (.int .u64 n) v2 (accB acc)) H = some (.ok (accB (acc ++ putU n)) H)
  | m, n, acc, h, hn, hl => by
    have hap := fun c K => ap_B (acc := acc) (c := c) (K := K) (by omega)
    have ht : isTup (accB (acc ++ [UInt8.ofNat n])) = false := isTup_acc
    by_cases h1 : n < 128
    · have c1 : ¬ (127 : Int) < n := by omega
      have hbs := fun K => bsR_byt (n := n) (by omega) (K := K)
      rw [p_leb_PutU_1100_eq, putU, if_pos h1]
      simp (contextual := true) (dsimp := false) (disch := omega) only [↓goDown, goUp, List.length_cons, List.length_nil, List.map_cons, List.map_nil, List.take_succ_cons, List.take_zero, List.drop_succ_cons, List.drop_zero, List.drop_nil, List.take_nil, List.cons_append, List.nil_append, List.append_nil, List.set_cons_zero, List.set_cons_succ, List.all_cons, List.all_nil, ↓reduceIte, reduceCtorEq, ge_iff_le, gt_iff_lt, eq_self_iff_true, beq_self_eq_true, beq_iff_eq, bne_iff_ne, ne_eq, ite_not, Int.reduceEq, Option.getD_some, Option.getD_none, ite_self, Nat.reduceAdd, Nat.reduceSub, Nat.reduceMul, Nat.reduceLeDiff, Nat.reduceEqDiff, Nat.reduceBEq, Nat.reduceBNe, Int.reduceLT, Int.reduceLE, Int.reduceAdd, Int.reduceSub, Int.reduceMul, Int.reduceNeg, Int.reduceNe, Int.reduceBEq, Int.reduceBNe, Int.reduceToNat, c1, hbs, hap, ht]
    · cases m with
      | zero => simp at h; omega
      | succ m =>
        have c1 : (127 : Int) < n := by omega
        have hw : IntKind.u8.wrap (n : Int) = ((n % 256 : Nat) : Int) := by rw [show IntKind.u8.wrap (n : Int) = (n : Int) % 256 from rfl]; omega
        have hbs := fun K => bsR_byt (n := n % 128 + 128) (by omega) (K := K)
        have ih := putU_loop (H := H) (v2 := v2) m (n / 128) (acc ++ [UInt8.ofNat (n % 128 + 128)]) (by
          have : 128 ^ (m + 1 + 1) = 128 ^ (m + 1) * 128 := Nat.pow_succ ..
          exact Nat.div_lt_of_lt_mul (by omega)) (by omega) (by simp; omega)
        rw [p_leb_PutU_1100_eq, putU, if_neg h1]
        simp (contextual := true) (dsimp := false) (disch := omega) only [↓goDown, goUp, List.length_cons, List.length_nil, List.map_cons, List.map_nil, List.take_succ_cons, List.take_zero, List.drop_succ_cons, List.drop_zero, List.drop_nil, List.take_nil, List.cons_append, List.nil_append, List.append_nil, List.set_cons_zero, List.set_cons_succ, List.all_cons, List.all_nil, ↓reduceIte, reduceCtorEq, ge_iff_le, gt_iff_lt, eq_self_iff_true, beq_self_eq_true, beq_iff_eq, bne_iff_ne, ne_eq, ite_not, Int.reduceEq, Option.getD_some, Option.getD_none, ite_self, Nat.reduceAdd, Nat.reduceSub, Nat.reduceMul, Nat.reduceLeDiff, Nat.reduceEqDiff, Nat.reduceBEq, Nat.reduceBNe, Int.reduceLT, Int.reduceLE, Int.reduceAdd, Int.reduceSub, Int.reduceMul, Int.reduceNeg, Int.reduceNe, Int.reduceBEq, Int.reduceBNe, Int.reduceToNat, c1, hw, or_byte, shr7, hbs, hap]
        rw [ih]
        simp
theorem putU_is {H : Heap} {n : Nat} (hn : n < 2 ^ 64) : run (C k_leb_PutU [.int .u64 n]) H = some (.ok (accB (putU n)) H) := by
  rw [leb_PutU_eq]
  have h := putU_loop (H := H) (v2 := .slice false true 0 []) 9 n [] (by omega) hn (by simp)
  have h : run (p_leb_PutU_1100 (.int .u64 n) (.slice false true 0 []) (.slice false true 0 [])) H = some (.ok (accB (putU n)) H) := h
  have hl : ∀ k, (accB (putU n)).low k = true := fun k => low_acc
  simp (contextual := true) (dsimp := false) (disch := omega) only [↓goDown, goUp, List.length_cons, List.length_nil, List.map_cons, List.map_nil, List.take_succ_cons, List.take_zero, List.drop_succ_cons, List.drop_zero, List.drop_nil, List.take_nil, List.cons_append, List.nil_append, List.append_nil, List.set_cons_zero, List.set_cons_succ, List.all_cons, List.all_nil, ↓reduceIte, reduceCtorEq, ge_iff_le, gt_iff_lt, eq_self_iff_true, beq_self_eq_true, beq_iff_eq, bne_iff_ne, ne_eq, ite_not, Int.reduceEq, Option.getD_some, Option.getD_none, ite_self, Nat.reduceAdd, Nat.reduceSub, Nat.reduceMul, Nat.reduceLeDiff, Nat.reduceEqDiff, Nat.reduceBEq, Nat.reduceBNe, Int.reduceLT, Int.reduceLE, Int.reduceAdd, Int.reduceSub, Int.reduceMul, Int.reduceNeg, Int.reduceNe, Int.reduceBEq, Int.reduceBNe, Int.reduceToNat, h, hl]
theorem rputU_loop {H : Heap} {v2 : PV} : ∀ (m n : Nat) (acc : List UInt8), n < 128 ^ (m + 1) → n < 2 ^ 64 → acc.length + m < 1000 → run (p_ratchetref01_PutU_1100 (.int .u64 n) v2 (accB acc)) H = some (.ok (accB (acc ++ putU n)) H)
  | m, n, acc, h, hn, hl => by
    have hap := fun c K => ap_B (acc := acc) (c := c) (K := K) (by omega)
    have ht : isTup (accB (acc ++ [UInt8.ofNat n])) = false := isTup_acc
    by_cases h1 : n < 128
    · have c1 : ¬ (128 : Int) ≤ n := by omega
      have hbs := fun K => bsR_byt (n := n) (by omega) (K := K)
      rw [p_ratchetref01_PutU_1100_eq, putU, if_pos h1]
      simp (contextual := true) (dsimp := false) (disch := omega) only [↓goDown, goUp, List.length_cons, List.length_nil, List.map_cons, List.map_nil, List.take_succ_cons, List.take_zero, List.drop_succ_cons, List.drop_zero, List.drop_nil, List.take_nil, List.cons_append, List.nil_append, List.append_nil, List.set_cons_zero, List.set_cons_succ, List.all_cons, List.all_nil, ↓reduceIte, reduceCtorEq, ge_iff_le, gt_iff_lt, eq_self_iff_true, beq_self_eq_true, beq_iff_eq, bne_iff_ne, ne_eq, ite_not, Int.reduceEq, Option.getD_some, Option.getD_none, ite_self, Nat.reduceAdd, Nat.reduceSub, Nat.reduceMul, Nat.reduceLeDiff, Nat.reduceEqDiff, Nat.reduceBEq, Nat.reduceBNe, Int.reduceLT, Int.reduceLE, Int.reduceAdd, Int.reduceSub, Int.reduceMul, Int.reduceNeg, Int.reduceNe, Int.reduceBEq, Int.reduceBNe, Int.reduceToNat, c1, hbs, hap, ht]
    · cases m with
      | zero => simp at h; omega
      | succ m =>
        have c1 : (128 : Int) ≤ n := by omega
        have hrem : (n : Int).tmod 128 = ((n % 128 : Nat) : Int) := rfl
        have hquo : (n : Int).tdiv 128 = ((n / 128 : Nat) : Int) := rfl
        have hadd : ((n % 128 : Nat) : Int) + 128 = ((n % 128 + 128 : Nat) : Int) := rfl
        have hbs := fun K => bsR_byt (n := n % 128 + 128) (by omega) (K := K)
        have ih := rputU_loop (H := H) (v2 := v2) m (n / 128) (acc ++ [UInt8.ofNat (n % 128 + 128)]) (by
          have : 128 ^ (m + 1 + 1) = 128 ^ (m + 1) * 128 := Nat.pow_succ ..
          exact Nat.div_lt_of_lt_mul (by omega)) (by omega) (by simp; omega)
        rw [p_ratchetref01_PutU_1100_eq, putU, if_neg h1]
        simp (contextual := true) (dsimp := false) (disch := omega) only [↓goDown, goUp, List.length_cons, List.length_nil, List.map_cons, List.map_nil, List.take_succ_cons, List.take_zero, List.drop_succ_cons, List.drop_zero, List.drop_nil, List.take_nil, List.cons_append, List.nil_append, List.append_nil, List.set_cons_zero, List.set_cons_succ, List.all_cons, List.all_nil, ↓reduceIte, reduceCtorEq, ge_iff_le, gt_iff_lt, eq_self_iff_true, beq_self_eq_true, beq_iff_eq, bne_iff_ne, ne_eq, ite_not, Int.reduceEq, Option.getD_some, Option.getD_none, ite_self, Nat.reduceAdd, Nat.reduceSub, Nat.reduceMul, Nat.reduceLeDiff, Nat.reduceEqDiff, Nat.reduceBEq, Nat.reduceBNe, Int.reduceLT, Int.reduceLE, Int.reduceAdd, Int.reduceSub, Int.reduceMul, Int.reduceNeg, Int.reduceNe, Int.reduceBEq, Int.reduceBNe, Int.reduceToNat, c1, hrem, hquo, hadd, hbs, hap]
        rw [ih]
        simp
theorem rputU_is {H : Heap} {n : Nat} (hn : n < 2 ^ 64) : run (C k_ratchetref01_PutU [.int .u64 n]) H = some (.ok (accB (putU n)) H) := by
  rw [ratchetref01_PutU_eq]
  have h := rputU_loop (H := H) (v2 := .slice false true 0 []) 9 n [] (by omega) hn (by simp)
  have h : run (p_ratchetref01_PutU_1100 (.int .u64 n) (.slice false true 0 []) (.slice false true 0 [])) H = some (.ok (accB (putU n)) H) := h
  have hl : ∀ k, (accB (putU n)).low k = true := fun k => low_acc
  simp (contextual := true) (dsimp := false) (disch := omega) only [↓goDown, goUp, List.length_cons, List.length_nil, List.map_cons, List.map_nil, List.take_succ_cons, List.take_zero, List.drop_succ_cons, List.drop_zero, List.drop_nil, List.take_nil, List.cons_append, List.nil_append, List.append_nil, List.set_cons_zero, List.set_cons_succ, List.all_cons, List.all_nil, ↓reduceIte, reduceCtorEq, ge_iff_le, gt_iff_lt, eq_self_iff_true, beq_self_eq_true, beq_iff_eq, bne_iff_ne, ne_eq, ite_not, Int.reduceEq, Option.getD_some, Option.getD_none, ite_self, Nat.reduceAdd, Nat.reduceSub, Nat.reduceMul, Nat.reduceLeDiff, Nat.reduceEqDiff, Nat.reduceBEq, Nat.reduceBNe, Int.reduceLT, Int.reduceLE, Int.reduceAdd, Int.reduceSub, Int.reduceMul, Int.reduceNeg, Int.reduceNe, Int.reduceBEq, Int.reduceBNe, Int.reduceToNat, h, hl]
theorem putU_len : ∀ (m n : Nat), n < 128 ^ (m + 1) → (putU n).length ≤ m + 1
  | m, n, h => by
    rw [putU]
    split
    · simp
    · cases m with
      | zero => simp at h; omega
      | succ m =>
        have := putU_len m (n / 128) (by
          have : 128 ^ (m + 1 + 1) = 128 ^ (m + 1) * 128 := Nat.pow_succ ..
          exact Nat.div_lt_of_lt_mul (by omega))
        simp only [List.length_cons]
        omega
theorem putU_ten {n : Nat} (h : n < 2 ^ 64) : (putU n).length ≤ 10 := putU_len 9 n (by omega)
end Go.Proofs.Ytofbbijagbpicaa.Pi.Q
namespace Go.Proofs.Ytofbbijagbpicaa.Pi.Q
open Go Go.Proofs.Ytofbbijagbpicaa.Pi
set_option linter.unusedVariables false
set_option linter.unusedSimpArgs false
set_option maxRecDepth 100000
attribute [local congr] ite_congr
def putS (n : Int) : List UInt8 := if -64 ≤ n ∧ n ≤ 63 then [UInt8.ofNat (n % 128).toNat] else UInt8.ofNat ((n % 128).toNat + 128) :: putS (n / 128)
termination_by n.natAbs
decreasing_by omega
theorem and127 : ∀ m : Fin 256, IntKind.u8.wrap (BitVec.ofInt 8 (m.val : Int) &&& BitVec.ofInt 8 127).toNat = ((m.val % 128 : Nat) : Int) := by decide +kernel
theorem and_byte (n : Nat) : bi .and .none (.int .u8 ((n % 256 : Nat) : Int)) (.int .u8 127) = M.pure (.int .u8 ((n % 128 : Nat) : Int)) := by
  rw [run_and]
  have := and127 ⟨n % 256, by omega⟩
  have e : n % 256 % 128 = n % 128 := by omega
  simp only [e] at this
  rw [show IntKind.u8.bits = 8 from rfl, this]
theorem shrS (n : Int) : bi .shr .none (.int .i64 n) (.int .u64 7) = M.pure (.int .i64 (n / 128)) := by
  rw [run_shr (by omega)]
  have : n.fdiv (2 ^ shiftN .i64 7) = n / 128 := by
    have e : (2 : Int) ^ shiftN .i64 7 = 128 := by decide
    rw [e]
    simp [Int.fdiv_eq_ediv]
  rw [this]
theorem putS_loop {H : Heap} {v2 : PV} : ∀ (m : Nat) (n : Int) (acc : List UInt8), -(64 * 128 ^ m) ≤ n → n < 64 * 128 ^ m → -9223372036854775808 ≤ n → n ≤ 9223372036854775807 → acc.length + m < 1000 →
    run (p_leb_PutS_1100 (.int .i64 n) v2 (accB acc)) H = some (.ok (accB (acc ++ putS n)) H)
  | m, n, acc, h, h', hn, hn', hl => by
    have hap := fun c K => ap_B (acc := acc) (c := c) (K := K) (by omega)
    have hm : ((n % 128).toNat : Int) = n % 128 := Int.toNat_of_nonneg (by omega)
    have hw : IntKind.u8.wrap n = (((n % 256).toNat % 256 : Nat) : Int) := by rw [show IntKind.u8.wrap n = n % 256 from rfl]; omega
    have e128 : (n % 256).toNat % 128 = (n % 128).toNat := by omega
    by_cases h1 : -64 ≤ n ∧ n ≤ 63
    · have c1 : ¬ n < -64 := by omega
      have c2 : ¬ 63 < n := by omega
      have ha := and_byte (n % 256).toNat
      rw [e128] at ha
      have hbs := fun K => bsR_byt (n := (n % 128).toNat) (by omega) (K := K)
      have ht : isTup (accB (acc ++ [UInt8.ofNat (n % 128).toNat])) = false := isTup_acc
      rw [p_leb_PutS_1100_eq, putS, if_pos h1]
      simp (contextual := true) (dsimp := false) (disch := omega) only [↓goDown, goUp, List.length_cons, List.length_nil, List.map_cons, List.map_nil, List.take_succ_cons, List.take_zero, List.drop_succ_cons, List.drop_zero, List.drop_nil, List.take_nil, List.cons_append, List.nil_append, List.append_nil, List.set_cons_zero, List.set_cons_succ, List.all_cons, List.all_nil, ↓reduceIte, reduceCtorEq, ge_iff_le, gt_iff_lt, eq_self_iff_true, beq_self_eq_true, beq_iff_eq, bne_iff_ne, ne_eq, ite_not, Int.reduceEq, Option.getD_some, Option.getD_none, ite_self, Nat.reduceAdd, Nat.reduceSub, Nat.reduceMul, Nat.reduceLeDiff, Nat.reduceEqDiff, Nat.reduceBEq, Nat.reduceBNe, Int.reduceLT, Int.reduceLE, Int.reduceAdd, Int.reduceSub, Int.reduceMul, Int.reduceNeg, Int.reduceNe, Int.reduceBEq, Int.reduceBNe, Int.reduceToNat, c1, c2, hw, ha, hbs, hap, ht]
    · cases m with
      | zero => simp at h h'; omega
      | succ m =>
        have ho := or_byte (n % 256).toNat
        rw [e128] at ho
        have hbs := fun K => bsR_byt (n := (n % 128).toNat + 128) (by omega) (K := K)
        have ih := putS_loop (H := H) (v2 := v2) m (n / 128) (acc ++ [UInt8.ofNat ((n % 128).toNat + 128)]) (by
          have : (128 : Int) ^ (m + 1) = 128 ^ m * 128 := Int.pow_succ ..
          omega) (by
          have : (128 : Int) ^ (m + 1) = 128 ^ m * 128 := Int.pow_succ ..
          omega) (by omega) (by omega) (by simp; omega)
        rw [p_leb_PutS_1100_eq, putS, if_neg h1]
        by_cases c1 : n < -64
        · simp (contextual := true) (dsimp := false) (disch := omega) only [↓goDown, goUp, List.length_cons, List.length_nil, List.map_cons, List.map_nil, List.take_succ_cons, List.take_zero, List.drop_succ_cons, List.drop_zero, List.drop_nil, List.take_nil, List.cons_append, List.nil_append, List.append_nil, List.set_cons_zero, List.set_cons_succ, List.all_cons, List.all_nil, ↓reduceIte, reduceCtorEq, ge_iff_le, gt_iff_lt, eq_self_iff_true, beq_self_eq_true, beq_iff_eq, bne_iff_ne, ne_eq, ite_not, Int.reduceEq, Option.getD_some, Option.getD_none, ite_self, Nat.reduceAdd, Nat.reduceSub, Nat.reduceMul, Nat.reduceLeDiff, Nat.reduceEqDiff, Nat.reduceBEq, Nat.reduceBNe, Int.reduceLT, Int.reduceLE, Int.reduceAdd, Int.reduceSub, Int.reduceMul, Int.reduceNeg, Int.reduceNe, Int.reduceBEq, Int.reduceBNe, Int.reduceToNat, c1, hw, ho, shrS, hbs, hap]
          rw [ih]
          simp
        · have c2 : 63 < n := by omega
          simp (contextual := true) (dsimp := false) (disch := omega) only [↓goDown, goUp, List.length_cons, List.length_nil, List.map_cons, List.map_nil, List.take_succ_cons, List.take_zero, List.drop_succ_cons, List.drop_zero, List.drop_nil, List.take_nil, List.cons_append, List.nil_append, List.append_nil, List.set_cons_zero, List.set_cons_succ, List.all_cons, List.all_nil, ↓reduceIte, reduceCtorEq, ge_iff_le, gt_iff_lt, eq_self_iff_true, beq_self_eq_true, beq_iff_eq, bne_iff_ne, ne_eq, ite_not, Int.reduceEq, Option.getD_some, Option.getD_none, ite_self, Nat.reduceAdd, Nat.reduceSub, Nat.reduceMul, Nat.reduceLeDiff, Nat.reduceEqDiff, Nat.reduceBEq, Nat.reduceBNe, Int.reduceLT, Int.reduceLE, Int.reduceAdd, Int.reduceSub, Int.reduceMul, Int.reduceNeg, Int.reduceNe, Int.reduceBEq, Int.reduceBNe, Int.reduceToNat, c1, c2, hw, ho, shrS, hbs, hap]
          rw [ih]
          simp
theorem putS_is {H : Heap} {n : Int} (hn : -9223372036854775808 ≤ n) (hn' : n ≤ 9223372036854775807) : run (C k_leb_PutS [.int .i64 n]) H = some (.ok (accB (putS n)) H) := by
  rw [leb_PutS_eq]
  have h := putS_loop (H := H) (v2 := .slice false true 0 []) 9 n [] (by omega) (by omega) hn hn' (by simp)
  have h : run (p_leb_PutS_1100 (.int .i64 n) (.slice false true 0 []) (.slice false true 0 [])) H = some (.ok (accB (putS n)) H) := h
  have hl : ∀ k, (accB (putS n)).low k = true := fun k => low_acc
  simp (contextual := true) (dsimp := false) (disch := omega) only [↓goDown, goUp, List.length_cons, List.length_nil, List.map_cons, List.map_nil, List.take_succ_cons, List.take_zero, List.drop_succ_cons, List.drop_zero, List.drop_nil, List.take_nil, List.cons_append, List.nil_append, List.append_nil, List.set_cons_zero, List.set_cons_succ, List.all_cons, List.all_nil, ↓reduceIte, reduceCtorEq, ge_iff_le, gt_iff_lt, eq_self_iff_true, beq_self_eq_true, beq_iff_eq, bne_iff_ne, ne_eq, ite_not, Int.reduceEq, Option.getD_some, Option.getD_none, ite_self, Nat.reduceAdd, Nat.reduceSub, Nat.reduceMul, Nat.reduceLeDiff, Nat.reduceEqDiff, Nat.reduceBEq, Nat.reduceBNe, Int.reduceLT, Int.reduceLE, Int.reduceAdd, Int.reduceSub, Int.reduceMul, Int.reduceNeg, Int.reduceNe, Int.reduceBEq, Int.reduceBNe, Int.reduceToNat, h, hl]
theorem and_i64 (n : Int) : bi .and .none (.int .i64 n) (.int .i64 127) = M.pure (.int .i64 (n % 128)) := by
  rw [run_and, show IntKind.i64.bits = 64 from rfl]
  have e : (BitVec.ofInt 64 n &&& BitVec.ofInt 64 127).toNat = (n % 128).toNat := by
    rw [BitVec.toNat_and, BitVec.toNat_ofInt, show (BitVec.ofInt 64 127).toNat = 2 ^ 7 - 1 from rfl, Nat.and_two_pow_sub_one_eq_mod]
    omega
  rw [e, Int.toNat_of_nonneg (by omega), show IntKind.i64.wrap (n % 128) = n % 128 from by rw [wi]; omega]
theorem rputS_loop {H : Heap} {v2 : PV} : ∀ (m : Nat) (n : Int) (acc : List UInt8), -(64 * 128 ^ m) ≤ n → n < 64 * 128 ^ m → -9223372036854775808 ≤ n → n ≤ 9223372036854775807 → acc.length + m < 1000 →
    run (p_ratchetref01_PutS_1100 (.int .i64 n) v2 (accB acc)) H = some (.ok (accB (acc ++ putS n)) H)
  | m, n, acc, h, h', hn, hn', hl => by
    have hap := fun c K => ap_B (acc := acc) (c := c) (K := K) (by omega)
    have hm : n % 128 = ((n % 128).toNat : Int) := (Int.toNat_of_nonneg (by omega)).symm
    have ha := and_i64 n
    rw [hm] at ha
    by_cases h1 : -64 ≤ n ∧ n ≤ 63
    · have c1 : ¬ n < -64 := by omega
      have c2 : ¬ 63 < n := by omega
      have hbs := fun K => bsR_byt (n := (n % 128).toNat) (by omega) (K := K)
      have ht : isTup (accB (acc ++ [UInt8.ofNat (n % 128).toNat])) = false := isTup_acc
      rw [p_ratchetref01_PutS_1100_eq, putS, if_pos h1]
      simp (contextual := true) (dsimp := false) (disch := omega) only [↓goDown, goUp, List.length_cons, List.length_nil, List.map_cons, List.map_nil, List.take_succ_cons, List.take_zero, List.drop_succ_cons, List.drop_zero, List.drop_nil, List.take_nil, List.cons_append, List.nil_append, List.append_nil, List.set_cons_zero, List.set_cons_succ, List.all_cons, List.all_nil, ↓reduceIte, reduceCtorEq, ge_iff_le, gt_iff_lt, eq_self_iff_true, beq_self_eq_true, beq_iff_eq, bne_iff_ne, ne_eq, ite_not, Int.reduceEq, Option.getD_some, Option.getD_none, ite_self, Nat.reduceAdd, Nat.reduceSub, Nat.reduceMul, Nat.reduceLeDiff, Nat.reduceEqDiff, Nat.reduceBEq, Nat.reduceBNe, Int.reduceLT, Int.reduceLE, Int.reduceAdd, Int.reduceSub, Int.reduceMul, Int.reduceNeg, Int.reduceNe, Int.reduceBEq, Int.reduceBNe, Int.reduceToNat, c1, c2, ha, hbs, hap, ht]
    · cases m with
      | zero => simp at h h'; omega
      | succ m =>
        have hadd : (((n % 128).toNat : Nat) : Int) + 128 = (((n % 128).toNat + 128 : Nat) : Int) := rfl
        have hbs := fun K => bsR_byt (n := (n % 128).toNat + 128) (by omega) (K := K)
        have ih := rputS_loop (H := H) (v2 := v2) m (n / 128) (acc ++ [UInt8.ofNat ((n % 128).toNat + 128)]) (by
          have : (128 : Int) ^ (m + 1) = 128 ^ m * 128 := Int.pow_succ ..
          omega) (by
          have : (128 : Int) ^ (m + 1) = 128 ^ m * 128 := Int.pow_succ ..
          omega) (by omega) (by omega) (by simp; omega)
        rw [p_ratchetref01_PutS_1100_eq, putS, if_neg h1]
        by_cases c1 : n < -64
        · simp (contextual := true) (dsimp := false) (disch := omega) only [↓goDown, goUp, List.length_cons, List.length_nil, List.map_cons, List.map_nil, List.take_succ_cons, List.take_zero, List.drop_succ_cons, List.drop_zero, List.drop_nil, List.take_nil, List.cons_append, List.nil_append, List.append_nil, List.set_cons_zero, List.set_cons_succ, List.all_cons, List.all_nil, ↓reduceIte, reduceCtorEq, ge_iff_le, gt_iff_lt, eq_self_iff_true, beq_self_eq_true, beq_iff_eq, bne_iff_ne, ne_eq, ite_not, Int.reduceEq, Option.getD_some, Option.getD_none, ite_self, Nat.reduceAdd, Nat.reduceSub, Nat.reduceMul, Nat.reduceLeDiff, Nat.reduceEqDiff, Nat.reduceBEq, Nat.reduceBNe, Int.reduceLT, Int.reduceLE, Int.reduceAdd, Int.reduceSub, Int.reduceMul, Int.reduceNeg, Int.reduceNe, Int.reduceBEq, Int.reduceBNe, Int.reduceToNat, c1, ha, hadd, shrS, hbs, hap]
          rw [ih]
          simp
        · have c2 : 63 < n := by omega
          simp (contextual := true) (dsimp := false) (disch := omega) only [↓goDown, goUp, List.length_cons, List.length_nil, List.map_cons, List.map_nil, List.take_succ_cons, List.take_zero, List.drop_succ_cons, List.drop_zero, List.drop_nil, List.take_nil, List.cons_append, List.nil_append, List.append_nil, List.set_cons_zero, List.set_cons_succ, List.all_cons, List.all_nil, ↓reduceIte, reduceCtorEq, ge_iff_le, gt_iff_lt, eq_self_iff_true, beq_self_eq_true, beq_iff_eq, bne_iff_ne, ne_eq, ite_not, Int.reduceEq, Option.getD_some, Option.getD_none, ite_self, Nat.reduceAdd, Nat.reduceSub, Nat.reduceMul, Nat.reduceLeDiff, Nat.reduceEqDiff, Nat.reduceBEq, Nat.reduceBNe, Int.reduceLT, Int.reduceLE, Int.reduceAdd, Int.reduceSub, Int.reduceMul, Int.reduceNeg, Int.reduceNe, Int.reduceBEq, Int.reduceBNe, Int.reduceToNat, c1, c2, ha, hadd, shrS, hbs, hap]
          rw [ih]
          simp
theorem rputS_is {H : Heap} {n : Int} (hn : -9223372036854775808 ≤ n) (hn' : n ≤ 9223372036854775807) : run (C k_ratchetref01_PutS [.int .i64 n]) H = some (.ok (accB (putS n)) H) := by
  rw [ratchetref01_PutS_eq]
  have h := rputS_loop (H := H) (v2 := .slice false true 0 []) 9 n [] (by omega) (by omega) hn hn' (by simp)
  have h : run (p_ratchetref01_PutS_1100 (.int .i64 n) (.slice false true 0 []) (.slice false true 0 [])) H = some (.ok (accB (putS n)) H) := h
  have hl : ∀ k, (accB (putS n)).low k = true := fun k => low_acc
  simp (contextual := true) (dsimp := false) (disch := omega) only [↓goDown, goUp, List.length_cons, List.length_nil, List.map_cons, List.map_nil, List.take_succ_cons, List.take_zero, List.drop_succ_cons, List.drop_zero, List.drop_nil, List.take_nil, List.cons_append, List.nil_append, List.append_nil, List.set_cons_zero, List.set_cons_succ, List.all_cons, List.all_nil, ↓reduceIte, reduceCtorEq, ge_iff_le, gt_iff_lt, eq_self_iff_true, beq_self_eq_true, beq_iff_eq, bne_iff_ne, ne_eq, ite_not, Int.reduceEq, Option.getD_some, Option.getD_none, ite_self, Nat.reduceAdd, Nat.reduceSub, Nat.reduceMul, Nat.reduceLeDiff, Nat.reduceEqDiff, Nat.reduceBEq, Nat.reduceBNe, Int.reduceLT, Int.reduceLE, Int.reduceAdd, Int.reduceSub, Int.reduceMul, Int.reduceNeg, Int.reduceNe, Int.reduceBEq, Int.reduceBNe, Int.reduceToNat, h, hl]
end Go.Proofs.Ytofbbijagbpicaa.Pi.Q
namespace Go.Proofs.Ytofbbijagbpicaa.Pi.Q
open Go Go.Proofs.Ytofbbijagbpicaa.Pi
set_option linter.unusedVariables false
set_option linter.unusedSimpArgs false
set_option maxRecDepth 100000
attribute [local congr] ite_congr
inductive Wr where
  | ok (u : List UInt8)
  | err (w : Nat)
theorem pmust_ok {H : Heap} {x : PV} : run (C k_entry_pen_must [x, .bool true]) H = some (.ok (.tup []) H) := by
  rw [entry_pen_must_eq]
  simp (contextual := true) (dsimp := false) (disch := omega) only [↓goDown, goUp, List.length_cons, List.length_nil, List.map_cons, List.map_nil, List.take_succ_cons, List.take_zero, List.drop_succ_cons, List.drop_zero, List.drop_nil, List.take_nil, List.cons_append, List.nil_append, List.append_nil, List.set_cons_zero, List.set_cons_succ, List.all_cons, List.all_nil, ↓reduceIte, reduceCtorEq, ge_iff_le, gt_iff_lt, eq_self_iff_true, beq_self_eq_true, beq_iff_eq, bne_iff_ne, ne_eq, ite_not, Int.reduceEq, Option.getD_some, Option.getD_none, ite_self, Nat.reduceAdd, Nat.reduceSub, Nat.reduceMul, Nat.reduceLeDiff, Nat.reduceEqDiff, Nat.reduceBEq, Nat.reduceBNe, Int.reduceLT, Int.reduceLE, Int.reduceAdd, Int.reduceSub, Int.reduceMul, Int.reduceNeg, Int.reduceNe, Int.reduceBEq, Int.reduceBNe, Int.reduceToNat, un_not]
theorem pmust_no {H : Heap} {x : PV} : run (C k_entry_pen_must [x, .bool false]) H = some (.pan (flt 0 4) H) := by
  rw [entry_pen_must_eq]
  simp (contextual := true) (dsimp := false) (disch := omega) only [↓goDown, goUp, List.length_cons, List.length_nil, List.map_cons, List.map_nil, List.take_succ_cons, List.take_zero, List.drop_succ_cons, List.drop_zero, List.drop_nil, List.take_nil, List.cons_append, List.nil_append, List.append_nil, List.set_cons_zero, List.set_cons_succ, List.all_cons, List.all_nil, ↓reduceIte, reduceCtorEq, ge_iff_le, gt_iff_lt, eq_self_iff_true, beq_self_eq_true, beq_iff_eq, bne_iff_ne, ne_eq, ite_not, Int.reduceEq, Option.getD_some, Option.getD_none, ite_self, Nat.reduceAdd, Nat.reduceSub, Nat.reduceMul, Nat.reduceLeDiff, Nat.reduceEqDiff, Nat.reduceBEq, Nat.reduceBNe, Int.reduceLT, Int.reduceLE, Int.reduceAdd, Int.reduceSub, Int.reduceMul, Int.reduceNeg, Int.reduceNe, Int.reduceBEq, Int.reduceBNe, Int.reduceToNat, un_not]
  rfl
theorem fits_is {H : Heap} {n : Int} : run (C k_entry_fits [.int .i64 n]) H = some (.ok (.bool (decide (0 ≤ n ∧ n ≤ 2147483647))) H) := by
  rw [entry_fits_eq]
  by_cases h1 : 0 ≤ n
  · by_cases h2 : n ≤ 2147483647
    · have e : decide (0 ≤ n ∧ n ≤ 2147483647) = true := decide_eq_true ⟨h1, h2⟩
      rw [e]
      simp (contextual := true) (dsimp := false) (disch := omega) only [↓goDown, goUp, List.length_cons, List.length_nil, List.map_cons, List.map_nil, List.take_succ_cons, List.take_zero, List.drop_succ_cons, List.drop_zero, List.drop_nil, List.take_nil, List.cons_append, List.nil_append, List.append_nil, List.set_cons_zero, List.set_cons_succ, List.all_cons, List.all_nil, ↓reduceIte, reduceCtorEq, ge_iff_le, gt_iff_lt, eq_self_iff_true, beq_self_eq_true, beq_iff_eq, bne_iff_ne, ne_eq, ite_not, Int.reduceEq, Option.getD_some, Option.getD_none, ite_self, Nat.reduceAdd, Nat.reduceSub, Nat.reduceMul, Nat.reduceLeDiff, Nat.reduceEqDiff, Nat.reduceBEq, Nat.reduceBNe, Int.reduceLT, Int.reduceLE, Int.reduceAdd, Int.reduceSub, Int.reduceMul, Int.reduceNeg, Int.reduceNe, Int.reduceBEq, Int.reduceBNe, Int.reduceToNat, h1, h2]
    · have e : decide (0 ≤ n ∧ n ≤ 2147483647) = false := decide_eq_false (fun h => h2 h.2)
      rw [e]
      simp (contextual := true) (dsimp := false) (disch := omega) only [↓goDown, goUp, List.length_cons, List.length_nil, List.map_cons, List.map_nil, List.take_succ_cons, List.take_zero, List.drop_succ_cons, List.drop_zero, List.drop_nil, List.take_nil, List.cons_append, List.nil_append, List.append_nil, List.set_cons_zero, List.set_cons_succ, List.all_cons, List.all_nil, ↓reduceIte, reduceCtorEq, ge_iff_le, gt_iff_lt, eq_self_iff_true, beq_self_eq_true, beq_iff_eq, bne_iff_ne, ne_eq, ite_not, Int.reduceEq, Option.getD_some, Option.getD_none, ite_self, Nat.reduceAdd, Nat.reduceSub, Nat.reduceMul, Nat.reduceLeDiff, Nat.reduceEqDiff, Nat.reduceBEq, Nat.reduceBNe, Int.reduceLT, Int.reduceLE, Int.reduceAdd, Int.reduceSub, Int.reduceMul, Int.reduceNeg, Int.reduceNe, Int.reduceBEq, Int.reduceBNe, Int.reduceToNat, h1, h2]
  · have e : decide (0 ≤ n ∧ n ≤ 2147483647) = false := decide_eq_false (fun h => h1 h.1)
    rw [e]
    simp (contextual := true) (dsimp := false) (disch := omega) only [↓goDown, goUp, List.length_cons, List.length_nil, List.map_cons, List.map_nil, List.take_succ_cons, List.take_zero, List.drop_succ_cons, List.drop_zero, List.drop_nil, List.take_nil, List.cons_append, List.nil_append, List.append_nil, List.set_cons_zero, List.set_cons_succ, List.all_cons, List.all_nil, ↓reduceIte, reduceCtorEq, ge_iff_le, gt_iff_lt, eq_self_iff_true, beq_self_eq_true, beq_iff_eq, bne_iff_ne, ne_eq, ite_not, Int.reduceEq, Option.getD_some, Option.getD_none, ite_self, Nat.reduceAdd, Nat.reduceSub, Nat.reduceMul, Nat.reduceLeDiff, Nat.reduceEqDiff, Nat.reduceBEq, Nat.reduceBNe, Int.reduceLT, Int.reduceLE, Int.reduceAdd, Int.reduceSub, Int.reduceMul, Int.reduceNeg, Int.reduceNe, Int.reduceBEq, Int.reduceBNe, Int.reduceToNat, h1]
def find (h : Int) : List Int → Nat → Option Nat
  | [], _ => none
  | a :: r, i => if a = h then some i else find h r (i + 1)
def absI : List Int := [-11, -9, -8, -7, -6, -5, -3, -1, -10, -4, -2, -12]
theorem putS_len : ∀ (m : Nat) (n : Int), -(64 * 128 ^ m) ≤ n → n < 64 * 128 ^ m → (putS n).length ≤ m + 1
  | m, n, h, h' => by
    rw [putS]
    split
    · simp
    · cases m with
      | zero => simp at h h'; omega
      | succ m =>
        have e : (128 : Int) ^ (m + 1) = 128 ^ m * 128 := Int.pow_succ ..
        have := putS_len m (n / 128) (by omega) (by omega)
        simp only [List.length_cons]
        omega
theorem heap_step {H : Heap} {c : Nat} {h a : Int} {cs : List PV} {i : Nat} (hi : i < 12) (ha : nth cs i = some (.int .i64 a)) :
    run (p_entry_pen_heap_1010 (.ptr c 0) (.int .i64 h) (.agg cs) (.int .i64 i)) H =
      if a = h then run (M.bind (C k_entry_pen_byte [.ptr c 0, .int .u8 ((105 + i : Nat) : Int)]) fun _ => M.pure (.tup [])) H
      else run (p_entry_pen_heap_1010 (.ptr c 0) (.int .i64 h) (.agg cs) (.int .i64 ((i + 1 : Nat) : Int))) H := by
  have c1 : (i : Int) < 12 := by omega
  have hx : run (ixA 12 1 none (.agg cs) (.int .i64 i)) H = some (.ok (.int .i64 a) H) := by
    rw [run_ixA, if_pos ⟨by omega, by omega⟩, Int.toNat_natCast, ha]
    rfl
  have e1 : (105 : Int) + i = ((105 + i : Nat) : Int) := by omega
  have e2 : (i : Int) + 1 = ((i + 1 : Nat) : Int) := rfl
  rw [p_entry_pen_heap_1010_eq]
  by_cases hc : a = h
  · rw [if_pos hc]
    have c2 : (a = h) = True := eq_true hc
    simp (contextual := true) (dsimp := false) (disch := omega) only [↓goDown, goUp, List.length_cons, List.length_nil, List.map_cons, List.map_nil, List.take_succ_cons, List.take_zero, List.drop_succ_cons, List.drop_zero, List.drop_nil, List.take_nil, List.cons_append, List.nil_append, List.append_nil, List.set_cons_zero, List.set_cons_succ, List.all_cons, List.all_nil, ↓reduceIte, reduceCtorEq, ge_iff_le, gt_iff_lt, eq_self_iff_true, beq_self_eq_true, beq_iff_eq, bne_iff_ne, ne_eq, ite_not, Int.reduceEq, Option.getD_some, Option.getD_none, ite_self, Nat.reduceAdd, Nat.reduceSub, Nat.reduceMul, Nat.reduceLeDiff, Nat.reduceEqDiff, Nat.reduceBEq, Nat.reduceBNe, Int.reduceLT, Int.reduceLE, Int.reduceAdd, Int.reduceSub, Int.reduceMul, Int.reduceNeg, Int.reduceNe, Int.reduceBEq, Int.reduceBNe, Int.reduceToNat, c1, hx, c2, e1]
  · rw [if_neg hc]
    have c2 : (a = h) = False := eq_false hc
    simp (contextual := true) (dsimp := false) (disch := omega) only [↓goDown, goUp, List.length_cons, List.length_nil, List.map_cons, List.map_nil, List.take_succ_cons, List.take_zero, List.drop_succ_cons, List.drop_zero, List.drop_nil, List.take_nil, List.cons_append, List.nil_append, List.append_nil, List.set_cons_zero, List.set_cons_succ, List.all_cons, List.all_nil, ↓reduceIte, reduceCtorEq, ge_iff_le, gt_iff_lt, eq_self_iff_true, beq_self_eq_true, beq_iff_eq, bne_iff_ne, ne_eq, ite_not, Int.reduceEq, Option.getD_some, Option.getD_none, ite_self, Nat.reduceAdd, Nat.reduceSub, Nat.reduceMul, Nat.reduceLeDiff, Nat.reduceEqDiff, Nat.reduceBEq, Nat.reduceBNe, Int.reduceLT, Int.reduceLE, Int.reduceAdd, Int.reduceSub, Int.reduceMul, Int.reduceNeg, Int.reduceNe, Int.reduceBEq, Int.reduceBNe, Int.reduceToNat, c1, hx, c2, e2]
end Go.Proofs.Ytofbbijagbpicaa.Pi.Q
namespace Go.Proofs.Ytofbbijagbpicaa.Pi.Q
open Go Go.Proofs.Ytofbbijagbpicaa.Pi
set_option linter.unusedVariables false
set_option linter.unusedSimpArgs false
set_option maxRecDepth 100000
attribute [local congr] ite_congr
theorem eql_V {H : Heap} {v : VT} {n : Int} : run (bi .eql (.struct [.int, .bool, .int]) (.agg [.int .i64 v.num, .bool v.nul, .int .i64 v.heap]) (.agg [.int .i64 n, .bool false, .int .i64 0])) H = some (.ok (.bool (decide (v = ⟨n, false, 0⟩))) H) := by
  obtain ⟨a, t, h⟩ := v
  have e : decide ((⟨a, t, h⟩ : VT) = ⟨n, false, 0⟩) = (a == n && (t == false && h == 0)) := by
    rw [Bool.eq_iff_iff]
    simp
  rw [e]
  unfold run bi
  cases hb1 : (a == n) <;> cases hb2 : (h == 0) <;> cases t <;> simp only [eqPV, eqCells, eqScalar, M.pure, hb1, hb2] <;> rfl
end Go.Proofs.Ytofbbijagbpicaa.Pi.Q
namespace Go.Proofs.Ytofbbijagbpicaa.Pi.Q
open Go Go.Proofs.Ytofbbijagbpicaa.Pi
set_option linter.unusedVariables false
set_option linter.unusedSimpArgs false
set_option maxRecDepth 100000
attribute [local congr] ite_congr
abbrev KR := Res (List UInt8) Unit
def encU (_ : Unit) : PV := .tup []
theorem encU_is {u : Unit} : encU u = .tup [] := nrfl rfl
abbrev pB (acc : List UInt8) : Box := .cells [accB acc]
theorem isCell_B {a : List UInt8} : isCell (accB a) = true := isCell_acc
theorem cells_B {a : List UInt8} : (accB a).cells = [accB a] := cells_acc
theorem low_B {a : List UInt8} {k : Nat} : (accB a).low k = true := low_acc
theorem isTup_B {a : List UInt8} : isTup (accB a) = false := isTup_acc
def kPut (u acc : List UInt8) : KR := if acc.length + u.length ≤ 140737488355328 then .ok () (acc ++ u) else .no
def kMust (b : Bool) (acc : List UInt8) : KR := if b = true then .ok () acc else .err y_entry_fault [0, 4]
theorem ap_X {acc u : List UInt8} {K : Heap} : run (ap true 1 1 (accB acc) (accB u)) K = if acc.length + u.length ≤ 140737488355328 then some (.ok (accB (acc ++ u)) K) else none := by
  cases acc with
  | nil => cases u with
    | nil => rfl
    | cons x r =>
      unfold accB accP run ap tail growB
      simp only [bytes, List.map_cons, List.map_nil, List.nil_append, List.length_nil, Nat.zero_add, beq_self_eq_true, Bool.or_true, cond_true, List.isEmpty_cons, cond_false, List.length_cons, List.length_map, Nat.mul_one, Nat.max_self]
      by_cases h : r.length + 1 ≤ 140737488355328
      · rw [decide_eq_true h, if_pos h]; rfl
      · rw [decide_eq_false h, if_neg h]; rfl
  | cons y a =>
    have key : (bytes (y :: a)).length + (bytes u).length = (y :: a).length + u.length := by simp [bytes]
    cases u with
    | nil =>
      unfold accB accP run ap tail growB
      simp only [bytes, List.map_cons, List.map_nil, List.append_nil, List.length_nil, Nat.add_zero, beq_self_eq_true, Bool.or_true, Bool.true_or, cond_true, cond_false, List.length_cons, List.length_map, Nat.mul_one, Nat.max_self, Bool.true_and]
      by_cases h : a.length + 1 ≤ 140737488355328
      · rw [decide_eq_true h, if_pos h]; rfl
      · rw [decide_eq_false h, if_neg h]; rfl
    | cons x r =>
      unfold accB accP run ap tail growB
      simp only [bytes, List.map_cons, List.map_nil, List.length_cons, List.length_map, beq_self_eq_true, Bool.or_true, cond_true, cond_false, Nat.mul_one, Nat.max_self, Bool.true_and]
      by_cases h : a.length + 1 + (r.length + 1) ≤ 140737488355328
      · rw [decide_eq_true h, if_pos h]
        simp only [cond_true, List.cons_append, List.map_cons, List.map_append]
        rfl
      · rw [decide_eq_false h, if_neg h]; rfl
theorem ap_X1 {acc : List UInt8} {c : UInt8} {K : Heap} : run (ap true 1 1 (accB acc) (.slice true false 1 [byt c])) K = if acc.length + 1 ≤ 140737488355328 then some (.ok (accB (acc ++ [c])) K) else none := ap_X (u := [c])
variable {c : Nat} {H : Heap} {L : List Box} {acc : List UInt8}
theorem mustK {b : Bool} (hc : c < List.length H) : runK c (C k_entry_pen_must [.ptr c 0, .bool b]) (St H c (pB acc) L) = outK c H L pB encU (kMust b acc) := by
  cases b with
  | true => rw [toK, pmust_ok]; rfl
  | false =>
    rw [toK, pmust_no]
    show some (Out.pan _ (hset (St H c (pB acc) L) c .dead)) = some (Out.pan _ (St H c .dead L))
    rw [set_St hc]; rfl
theorem byteK {n : Int} (h0 : 0 ≤ n) (h1 : n < 256) (hc : c < List.length H) : runK c (C k_entry_pen_byte [.ptr c 0, .int .u8 n]) (St H c (pB acc) L) = outK c H L pB encU (kPut [UInt8.ofNat n.toNat] acc) := liftK (fun H hc => by
  obtain ⟨n, rfl⟩ := Int.eq_ofNat_of_zero_le h0
  have hbs := fun K => bsR_byt (n := n) (by omega) (K := K)
  rw [entry_pen_byte_eq, Int.toNat_natCast]
  unfold kPut
  simp (contextual := true) (dsimp := false) (disch := omega) only [↓kDown, kUp, ↓goDown, goUp, List.length_cons, List.length_nil, List.map_cons, List.map_nil, List.take_succ_cons, List.take_zero, List.drop_succ_cons, List.drop_zero, List.drop_nil, List.take_nil, List.cons_append, List.nil_append, List.append_nil, List.set_cons_zero, List.set_cons_succ, List.all_cons, List.all_nil, ↓reduceIte, reduceCtorEq, ge_iff_le, gt_iff_lt, eq_self_iff_true, beq_self_eq_true, beq_iff_eq, bne_iff_ne, ne_eq, ite_not, Int.reduceEq, Option.getD_some, Option.getD_none, ite_self, Nat.reduceAdd, Nat.reduceSub, Nat.reduceMul, Nat.reduceLeDiff, Nat.reduceEqDiff, Nat.reduceBEq, Nat.reduceBNe, Int.reduceLT, Int.reduceLE, Int.reduceAdd, Int.reduceSub, Int.reduceMul, Int.reduceNeg, Int.reduceNe, Int.reduceBEq, Int.reduceBNe, Int.reduceToNat, hbs, ap_X1, isCell_B, cells_B, low_B, encU_is]) hc
theorem uK {n : Int} (h0 : 0 ≤ n) (h1 : n < 18446744073709551616) (hc : c < List.length H) : runK c (C k_entry_pen_u [.ptr c 0, .int .u64 n]) (St H c (pB acc) L) = outK c H L pB encU (kPut (putU n.toNat) acc) := liftK (fun H hc => by
  obtain ⟨n, rfl⟩ := Int.eq_ofNat_of_zero_le h0
  have hp := fun K => putU_is (H := K) (n := n) (by omega)
  rw [entry_pen_u_eq, Int.toNat_natCast]
  unfold kPut
  simp (contextual := true) (dsimp := false) (disch := omega) only [↓kDown, kUp, ↓goDown, goUp, List.length_cons, List.length_nil, List.map_cons, List.map_nil, List.take_succ_cons, List.take_zero, List.drop_succ_cons, List.drop_zero, List.drop_nil, List.take_nil, List.cons_append, List.nil_append, List.append_nil, List.set_cons_zero, List.set_cons_succ, List.all_cons, List.all_nil, ↓reduceIte, reduceCtorEq, ge_iff_le, gt_iff_lt, eq_self_iff_true, beq_self_eq_true, beq_iff_eq, bne_iff_ne, ne_eq, ite_not, Int.reduceEq, Option.getD_some, Option.getD_none, ite_self, Nat.reduceAdd, Nat.reduceSub, Nat.reduceMul, Nat.reduceLeDiff, Nat.reduceEqDiff, Nat.reduceBEq, Nat.reduceBNe, Int.reduceLT, Int.reduceLE, Int.reduceAdd, Int.reduceSub, Int.reduceMul, Int.reduceNeg, Int.reduceNe, Int.reduceBEq, Int.reduceBNe, Int.reduceToNat, toK (m := C k_leb_PutU [.int .u64 (n : Int)]), hp, ap_X, isCell_B, cells_B, low_B, encU_is]) hc
theorem flagK {b : Bool} (hc : c < List.length H) : runK c (C k_entry_pen_flag [.ptr c 0, .bool b]) (St H c (pB acc) L) = outK c H L pB encU (kPut [if b then 1 else 0] acc) := liftK (fun H hc => by
  rw [entry_pen_flag_eq]
  have h1 := fun L acc => byteK (c := c) (H := H) (L := L) (acc := acc) (n := 1) (by omega) (by omega) hc
  have h0 := fun L acc => byteK (c := c) (H := H) (L := L) (acc := acc) (n := 0) (by omega) (by omega) hc
  cases b <;> simp (contextual := true) (dsimp := false) (disch := omega) only [↓kDown, kUp, ↓goDown, goUp, List.length_cons, List.length_nil, List.map_cons, List.map_nil, List.take_succ_cons, List.take_zero, List.drop_succ_cons, List.drop_zero, List.drop_nil, List.take_nil, List.cons_append, List.nil_append, List.append_nil, List.set_cons_zero, List.set_cons_succ, List.all_cons, List.all_nil, ↓reduceIte, reduceCtorEq, ge_iff_le, gt_iff_lt, eq_self_iff_true, beq_self_eq_true, beq_iff_eq, bne_iff_ne, ne_eq, ite_not, Int.reduceEq, Option.getD_some, Option.getD_none, ite_self, Nat.reduceAdd, Nat.reduceSub, Nat.reduceMul, Nat.reduceLeDiff, Nat.reduceEqDiff, Nat.reduceBEq, Nat.reduceBNe, Int.reduceLT, Int.reduceLE, Int.reduceAdd, Int.reduceSub, Int.reduceMul, Int.reduceNeg, Int.reduceNe, Int.reduceBEq, Int.reduceBNe, Int.reduceToNat, h1, h0, encU_is] <;> rfl) hc
def kIndex (n : Int) (acc : List UInt8) : KR := if 0 ≤ n ∧ n ≤ 2147483647 then kPut (putU n.toNat) acc else .err y_entry_fault [0, 4]
theorem indexK {n : Int} (hc : c < List.length H) : runK c (C k_entry_pen_index [.ptr c 0, .int .i64 n]) (St H c (pB acc) L) = outK c H L pB encU (kIndex n acc) := liftK (fun H hc => by
  rw [entry_pen_index_eq]
  unfold kIndex
  simp (contextual := true) (dsimp := false) (disch := omega) only [↓kDown, kUp, ↓goDown, goUp, List.length_cons, List.length_nil, List.map_cons, List.map_nil, List.take_succ_cons, List.take_zero, List.drop_succ_cons, List.drop_zero, List.drop_nil, List.take_nil, List.cons_append, List.nil_append, List.append_nil, List.set_cons_zero, List.set_cons_succ, List.all_cons, List.all_nil, ↓reduceIte, reduceCtorEq, ge_iff_le, gt_iff_lt, eq_self_iff_true, beq_self_eq_true, beq_iff_eq, bne_iff_ne, ne_eq, ite_not, Int.reduceEq, Option.getD_some, Option.getD_none, ite_self, Nat.reduceAdd, Nat.reduceSub, Nat.reduceMul, Nat.reduceLeDiff, Nat.reduceEqDiff, Nat.reduceBEq, Nat.reduceBNe, Int.reduceLT, Int.reduceLE, Int.reduceAdd, Int.reduceSub, Int.reduceMul, Int.reduceNeg, Int.reduceNe, Int.reduceBEq, Int.reduceBNe, Int.reduceToNat, toK (m := C k_entry_fits [.int .i64 n]), fits_is, mustK, kMust, uK, encU_is]) hc
def kNamed : Option Nat → List UInt8 → KR
  | some j, acc => kPut [UInt8.ofNat (105 + j)] acc
  | none, _ => .err y_entry_fault [0, 4]
def kHeap (h : Int) (acc : List UInt8) : KR :=
  if 0 ≤ h then if h ≤ 2147483647 then kPut (putS h) acc else .err y_entry_fault [0, 4] else kNamed (find h absI 0) acc
theorem heapK_step {h a : Int} {cs : List PV} {i : Nat} (hi : i < 12) (ha : nth cs i = some (.int .i64 a)) (hc : c < List.length H) :
    runK c (p_entry_pen_heap_1010 (.ptr c 0) (.int .i64 h) (.agg cs) (.int .i64 i)) (St H c (pB acc) []) =
      if a = h then outK c H [] pB encU (kPut [UInt8.ofNat (105 + i)] acc)
      else runK c (p_entry_pen_heap_1010 (.ptr c 0) (.int .i64 h) (.agg cs) (.int .i64 ((i + 1 : Nat) : Int))) (St H c (pB acc) []) := by
  unfold runK
  rw [heap_step hi ha]
  by_cases hc2 : a = h
  · rw [if_pos hc2, if_pos hc2]
    have hb := byteK (c := c) (H := H) (L := []) (acc := acc) (n := ((105 + i : Nat) : Int)) (by omega) (by omega) hc
    rw [Int.toNat_natCast] at hb
    show runK c _ _ = _
    simp (contextual := true) (dsimp := false) (disch := omega) only [↓kDown, kUp, ↓goDown, goUp, List.length_cons, List.length_nil, List.map_cons, List.map_nil, List.take_succ_cons, List.take_zero, List.drop_succ_cons, List.drop_zero, List.drop_nil, List.take_nil, List.cons_append, List.nil_append, List.append_nil, List.set_cons_zero, List.set_cons_succ, List.all_cons, List.all_nil, ↓reduceIte, reduceCtorEq, ge_iff_le, gt_iff_lt, eq_self_iff_true, beq_self_eq_true, beq_iff_eq, bne_iff_ne, ne_eq, ite_not, Int.reduceEq, Option.getD_some, Option.getD_none, ite_self, Nat.reduceAdd, Nat.reduceSub, Nat.reduceMul, Nat.reduceLeDiff, Nat.reduceEqDiff, Nat.reduceBEq, Nat.reduceBNe, Int.reduceLT, Int.reduceLE, Int.reduceAdd, Int.reduceSub, Int.reduceMul, Int.reduceNeg, Int.reduceNe, Int.reduceBEq, Int.reduceBNe, Int.reduceToNat, hb, encU_is]
  · rw [if_neg hc2, if_neg hc2]
theorem heapK_loop {h : Int} {cs : List PV} (hc : c < List.length H) : ∀ (l : List Int) (i : Nat), (∀ k (a : Int), l[k]? = some a → nth cs (i + k) = some (.int .i64 a)) → i + l.length = 12 →
    runK c (p_entry_pen_heap_1010 (.ptr c 0) (.int .i64 h) (.agg cs) (.int .i64 i)) (St H c (pB acc) []) = outK c H [] pB encU (kNamed (find h l i) acc)
  | [], i, hcs, hi => by
    have c1 : ¬ (i : Int) < 12 := by simp at hi; omega
    rw [p_entry_pen_heap_1010_eq]
    simp only [find, kNamed]
    simp (contextual := true) (dsimp := false) (disch := omega) only [↓kDown, kUp, ↓goDown, goUp, List.length_cons, List.length_nil, List.map_cons, List.map_nil, List.take_succ_cons, List.take_zero, List.drop_succ_cons, List.drop_zero, List.drop_nil, List.take_nil, List.cons_append, List.nil_append, List.append_nil, List.set_cons_zero, List.set_cons_succ, List.all_cons, List.all_nil, ↓reduceIte, reduceCtorEq, ge_iff_le, gt_iff_lt, eq_self_iff_true, beq_self_eq_true, beq_iff_eq, bne_iff_ne, ne_eq, ite_not, Int.reduceEq, Option.getD_some, Option.getD_none, ite_self, Nat.reduceAdd, Nat.reduceSub, Nat.reduceMul, Nat.reduceLeDiff, Nat.reduceEqDiff, Nat.reduceBEq, Nat.reduceBNe, Int.reduceLT, Int.reduceLE, Int.reduceAdd, Int.reduceSub, Int.reduceMul, Int.reduceNeg, Int.reduceNe, Int.reduceBEq, Int.reduceBNe, Int.reduceToNat, c1, mustK, kMust]
  | a :: r, i, hcs, hi => by
    have hi12 : i < 12 := by simp at hi; omega
    rw [heapK_step hi12 (by simpa using hcs 0 a rfl) hc]
    unfold find
    by_cases hc2 : a = h
    · rw [if_pos hc2, if_pos hc2]; rfl
    · rw [if_neg hc2, if_neg hc2]
      exact heapK_loop hc r (i + 1) (fun k b hb => by
        have := hcs (k + 1) b (by simpa using hb)
        rwa [show i + (k + 1) = i + 1 + k by omega] at this) (by simp at hi; omega)
theorem heapK {h : Int} (hc : c < List.length H) : runK c (C k_entry_pen_heap [.ptr c 0, .int .i64 h]) (St H c (pB acc) L) = outK c H L pB encU (kHeap h acc) := liftK (fun H hc => by
  have hlp : runK c (p_entry_pen_heap_1010 (.ptr c 0) (.int .i64 h) (.agg [.int .i64 (-11), .int .i64 (-9), .int .i64 (-8), .int .i64 (-7), .int .i64 (-6), .int .i64 (-5), .int .i64 (-3), .int .i64 (-1), .int .i64 (-10), .int .i64 (-4), .int .i64 (-2), .int .i64 (-12)]) (.int .i64 0)) (St H c (pB acc) []) = _ := heapK_loop (acc := acc) (h := h) (cs := [.int .i64 (-11), .int .i64 (-9), .int .i64 (-8), .int .i64 (-7), .int .i64 (-6), .int .i64 (-5), .int .i64 (-3), .int .i64 (-1), .int .i64 (-10), .int .i64 (-4), .int .i64 (-2), .int .i64 (-12)]) hc absI 0 (fun k a hk => by
      have hk12 : k < 12 := by have := (List.getElem?_eq_some_iff.mp hk).1; simpa [absI] using this
      have : k = 0 ∨ k = 1 ∨ k = 2 ∨ k = 3 ∨ k = 4 ∨ k = 5 ∨ k = 6 ∨ k = 7 ∨ k = 8 ∨ k = 9 ∨ k = 10 ∨ k = 11 := by omega
      rcases this with rfl | rfl | rfl | rfl | rfl | rfl | rfl | rfl | rfl | rfl | rfl | rfl <;> (simp [absI] at hk; subst hk; rfl)) rfl
  rw [entry_pen_heap_eq]
  unfold kHeap
  by_cases h0 : 0 ≤ h
  · have hp := fun (h1 : h ≤ 2147483647) K => putS_is (H := K) (n := h) (by omega) (by omega)
    unfold kPut
    simp (contextual := true) (dsimp := false) (disch := omega) only [↓kDown, kUp, ↓goDown, goUp, List.length_cons, List.length_nil, List.map_cons, List.map_nil, List.take_succ_cons, List.take_zero, List.drop_succ_cons, List.drop_zero, List.drop_nil, List.take_nil, List.cons_append, List.nil_append, List.append_nil, List.set_cons_zero, List.set_cons_succ, List.all_cons, List.all_nil, ↓reduceIte, reduceCtorEq, ge_iff_le, gt_iff_lt, eq_self_iff_true, beq_self_eq_true, beq_iff_eq, bne_iff_ne, ne_eq, ite_not, Int.reduceEq, Option.getD_some, Option.getD_none, ite_self, Nat.reduceAdd, Nat.reduceSub, Nat.reduceMul, Nat.reduceLeDiff, Nat.reduceEqDiff, Nat.reduceBEq, Nat.reduceBNe, Int.reduceLT, Int.reduceLE, Int.reduceAdd, Int.reduceSub, Int.reduceMul, Int.reduceNeg, Int.reduceNe, Int.reduceBEq, Int.reduceBNe, Int.reduceToNat, h0, toK (m := C k_entry_fits [.int .i64 h]), fits_is, mustK, kMust, toK (m := C k_leb_PutS [.int .i64 h]), hp, ap_X, isCell_B, cells_B, low_B, encU_is]
  · simp (contextual := true) (dsimp := false) (disch := omega) only [↓kDown, kUp, ↓goDown, goUp, List.length_cons, List.length_nil, List.map_cons, List.map_nil, List.take_succ_cons, List.take_zero, List.drop_succ_cons, List.drop_zero, List.drop_nil, List.take_nil, List.cons_append, List.nil_append, List.append_nil, List.set_cons_zero, List.set_cons_succ, List.all_cons, List.all_nil, ↓reduceIte, reduceCtorEq, ge_iff_le, gt_iff_lt, eq_self_iff_true, beq_self_eq_true, beq_iff_eq, bne_iff_ne, ne_eq, ite_not, Int.reduceEq, Option.getD_some, Option.getD_none, ite_self, Nat.reduceAdd, Nat.reduceSub, Nat.reduceMul, Nat.reduceLeDiff, Nat.reduceEqDiff, Nat.reduceBEq, Nat.reduceBNe, Int.reduceLT, Int.reduceLE, Int.reduceAdd, Int.reduceSub, Int.reduceMul, Int.reduceNeg, Int.reduceNe, Int.reduceBEq, Int.reduceBNe, Int.reduceToNat, h0, toK (m := C k_entry_abstract []), abstract_is, hlp]) hc
def kVal (v : VT) (acc : List UInt8) : KR :=
  if v.num = 5 then (if v.nul = false then kPut [100] acc else if 0 ≤ v.heap then kPut [99] acc else .ok () acc).bind fun _ acc => kHeap v.heap acc
  else if 1 ≤ v.num ∧ v.num ≤ 4 ∧ v.nul = false ∧ v.heap = 0 then kPut [UInt8.ofNat (128 - v.num).toNat] acc else .err y_entry_fault [0, 4]
theorem valK {v : VT} (hc : c < List.length H) : runK c (C k_entry_pen_val [.ptr c 0, .agg [.int .i64 v.num, .bool v.nul, .int .i64 v.heap]]) (St H c (pB acc) L) = outK c H L pB encU (kVal v acc) := liftK (fun H hc => by
  have h1 := fun L acc => byteK (c := c) (H := H) (L := L) (acc := acc) (n := 100) (by omega) (by omega) hc
  have h0 := fun L acc => byteK (c := c) (H := H) (L := L) (acc := acc) (n := 99) (by omega) (by omega) hc
  have h2 := fun L acc h0 h1 => byteK (c := c) (H := H) (L := L) (acc := acc) (n := 128 - v.num) h0 h1 hc
  rw [entry_pen_val_eq]
  unfold kVal
  by_cases h5 : v.num = 5
  · cases v.nul <;> simp (contextual := true) (dsimp := false) (disch := omega) only [↓kDown, kUp, ↓goDown, goUp, List.length_cons, List.length_nil, List.map_cons, List.map_nil, List.take_succ_cons, List.take_zero, List.drop_succ_cons, List.drop_zero, List.drop_nil, List.take_nil, List.cons_append, List.nil_append, List.append_nil, List.set_cons_zero, List.set_cons_succ, List.all_cons, List.all_nil, ↓reduceIte, reduceCtorEq, ge_iff_le, gt_iff_lt, eq_self_iff_true, beq_self_eq_true, beq_iff_eq, bne_iff_ne, ne_eq, ite_not, Int.reduceEq, Option.getD_some, Option.getD_none, ite_self, Nat.reduceAdd, Nat.reduceSub, Nat.reduceMul, Nat.reduceLeDiff, Nat.reduceEqDiff, Nat.reduceBEq, Nat.reduceBNe, Int.reduceLT, Int.reduceLE, Int.reduceAdd, Int.reduceSub, Int.reduceMul, Int.reduceNeg, Int.reduceNe, Int.reduceBEq, Int.reduceBNe, Int.reduceToNat, h5, un_not, h1, h0, heapK, p_entry_pen_val_111_eq, encU_is] <;> rfl
  · by_cases a1 : 1 ≤ v.num
    · by_cases a2 : v.num ≤ 4
      · cases v.nul <;> simp (contextual := true) (dsimp := false) (disch := omega) only [↓kDown, kUp, ↓goDown, goUp, List.length_cons, List.length_nil, List.map_cons, List.map_nil, List.take_succ_cons, List.take_zero, List.drop_succ_cons, List.drop_zero, List.drop_nil, List.take_nil, List.cons_append, List.nil_append, List.append_nil, List.set_cons_zero, List.set_cons_succ, List.all_cons, List.all_nil, ↓reduceIte, reduceCtorEq, ge_iff_le, gt_iff_lt, eq_self_iff_true, beq_self_eq_true, beq_iff_eq, bne_iff_ne, ne_eq, ite_not, Int.reduceEq, Option.getD_some, Option.getD_none, ite_self, Nat.reduceAdd, Nat.reduceSub, Nat.reduceMul, Nat.reduceLeDiff, Nat.reduceEqDiff, Nat.reduceBEq, Nat.reduceBNe, Int.reduceLT, Int.reduceLE, Int.reduceAdd, Int.reduceSub, Int.reduceMul, Int.reduceNeg, Int.reduceNe, Int.reduceBEq, Int.reduceBNe, Int.reduceToNat, h5, eq_true a1, eq_true a2, un_not, mustK, kMust, h2, encU_is]
      · simp (contextual := true) (dsimp := false) (disch := omega) only [↓kDown, kUp, ↓goDown, goUp, List.length_cons, List.length_nil, List.map_cons, List.map_nil, List.take_succ_cons, List.take_zero, List.drop_succ_cons, List.drop_zero, List.drop_nil, List.take_nil, List.cons_append, List.nil_append, List.append_nil, List.set_cons_zero, List.set_cons_succ, List.all_cons, List.all_nil, ↓reduceIte, reduceCtorEq, ge_iff_le, gt_iff_lt, eq_self_iff_true, beq_self_eq_true, beq_iff_eq, bne_iff_ne, ne_eq, ite_not, Int.reduceEq, Option.getD_some, Option.getD_none, ite_self, Nat.reduceAdd, Nat.reduceSub, Nat.reduceMul, Nat.reduceLeDiff, Nat.reduceEqDiff, Nat.reduceBEq, Nat.reduceBNe, Int.reduceLT, Int.reduceLE, Int.reduceAdd, Int.reduceSub, Int.reduceMul, Int.reduceNeg, Int.reduceNe, Int.reduceBEq, Int.reduceBNe, Int.reduceToNat, h5, eq_true a1, a2, un_not, mustK, kMust, h2, encU_is]
    · simp (contextual := true) (dsimp := false) (disch := omega) only [↓kDown, kUp, ↓goDown, goUp, List.length_cons, List.length_nil, List.map_cons, List.map_nil, List.take_succ_cons, List.take_zero, List.drop_succ_cons, List.drop_zero, List.drop_nil, List.take_nil, List.cons_append, List.nil_append, List.append_nil, List.set_cons_zero, List.set_cons_succ, List.all_cons, List.all_nil, ↓reduceIte, reduceCtorEq, ge_iff_le, gt_iff_lt, eq_self_iff_true, beq_self_eq_true, beq_iff_eq, bne_iff_ne, ne_eq, ite_not, Int.reduceEq, Option.getD_some, Option.getD_none, ite_self, Nat.reduceAdd, Nat.reduceSub, Nat.reduceMul, Nat.reduceLeDiff, Nat.reduceEqDiff, Nat.reduceBEq, Nat.reduceBNe, Int.reduceLT, Int.reduceLE, Int.reduceAdd, Int.reduceSub, Int.reduceMul, Int.reduceNeg, Int.reduceNe, Int.reduceBEq, Int.reduceBNe, Int.reduceToNat, h5, a1, un_not, mustK, kMust, h2, encU_is]) hc
end Go.Proofs.Ytofbbijagbpicaa.Pi.Q
