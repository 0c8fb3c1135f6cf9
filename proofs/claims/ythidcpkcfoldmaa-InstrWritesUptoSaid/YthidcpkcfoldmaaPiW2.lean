/- What the law rests on, part 3 of 6: a reading of the program's code over told data, and what it comes to. -/
import Derived.Test.YthidcpkcfoldmaaPiW1
namespace Go.Proofs.Ythidcpkcfoldmaa.Pi
set_option linter.unusedVariables false
set_option linter.unusedSimpArgs false
variable {P : Program} {X : ExtT} {H : Heap}
def XSound (P : Program) (X : ExtT) : Prop :=
  ∀ f m, X f = some m → ∀ args H out, m args H = some out → callable P f = true ∧ ∀ g w cargs, Inv g H w → ArgsOk g args cargs → Calls P f cargs w (CallPost g w out)
theorem sem_sound (hX : XSound P X) (n : Nat) : CSound P (sem P X n).C ∧ CDSound P (sem P X n).CD := by
  induction n using Nat.strongRecOn with
  | _ n ih =>
    cases n with
    | zero => exact ⟨fun f args H out h => (fail_ne (H := H) h).elim, fun rv f args H out h => (fail_ne (H := H) h).elim⟩
    | succ n =>
      have hn := ih n (Nat.lt_succ_self n)
      refine ⟨fun f args H out h => ?_, fun rv f args H out h => fnDenD_sound hn.1 h⟩
      have h : (match X f with | some m => m args | none => fnDen P (sem P X n).C (sem P X n).CD (sem P X n).L f args) H = some out := h
      cases hf : X f with
      | some m => rw [hf] at h; exact hX f m hf args H out h
      | none =>
        rw [hf] at h
        exact fnDen_sound hn.1 hn.2 (fun fn => loop_sound n (fun m hm => (ih m (by omega)).1) _ _ _ (fun m hm r f a => sem_CD_le m r f a (by omega)) n (Nat.le_refl n)) h
theorem callW_sound (hX : XSound P X) : CSound P (callW P X) := by
  intro f args H out h
  obtain ⟨n, hn⟩ := ((cv_call P X f args).lim H out).mp h
  exact (sem_sound hX n).1 f args H out hn
theorem noX : XSound P (fun _ => none) := fun f m h => by cases h
end Go.Proofs.Ythidcpkcfoldmaa.Pi
namespace Go.Proofs.Ythidcpkcfoldmaa.Pi
set_option linter.unusedVariables false
noncomputable def kAt (c : Ctx) (L : LoopT) : List Nat → List Tmp → Code → K → List Tmp × Code × K
  | [], af, co, k => (af, co, k)
  | 0 :: p, af, .seq a b, k => kAt c L p ((rw b).1 ++ af) a fun
    | .normal, env' => bif c.rc.isNone && joinB a then L af b (keep ((rw b).1 ++ af) env') k else den c L af b env' k
    | e, env' => k e env'
  | _ :: p, af, .seq a b, k => kAt c L p af b k
  | 0 :: p, af, .cond _ a b, k => kAt c L p af a k
  | _ :: p, af, .cond _ a b, k => kAt c L p af b k
  | _ :: p, af, .block id b, k => kAt c L p af b fun
    | .exit i, env' => bif i == id then k .normal env' else k (.exit i) env'
    | e, env' => k e env'
  | _ :: p, af, .loop b, k => kAt c L p (alive af b) b fun
    | .normal, env' => L af (.loop b) (keep (alive af b) env') k
    | e, env' => k e env'
  | _, af, co, k => (af, co, k)
section
variable (P : Program) (X : ExtT)
noncomputable def kOf (f : FuncId) (p : List Nat) : List Tmp × Code × K :=
  match P.funcs[f]? with
  | some fn => match fn.body with
    | some b => kAt (ctxW P X none (protOf fn) (resM P fn)) (loopW P X none (protOf fn) (resM P fn)) p (resTmps fn) b fun
      | .exit _, _ => M.fail
      | _, env => resM P fn env
    | none => ([], .skip, fun _ _ => M.fail)
  | none => ([], .skip, fun _ _ => M.fail)
noncomputable def ctxOf (f : FuncId) : Ctx :=
  match P.funcs[f]? with
  | some fn => ctxW P X none (protOf fn) (resM P fn)
  | none => ctxW P X none [] (fun _ => M.fail)
noncomputable def atP (f : FuncId) (p : List Nat) (env : Env) : M PV :=
  loopW P X none (ctxOf P X f).prot (ctxOf P X f).res (kOf P X f p).1 (kOf P X f p).2.1 env (kOf P X f p).2.2
noncomputable def stepP (f : FuncId) (p : List Nat) (env : Env) : M PV :=
  go1 (ctxW P X none (ctxOf P X f).prot (ctxOf P X f).res) (loopW P X none (ctxOf P X f).prot (ctxOf P X f).res) (kOf P X f p).1 (kOf P X f p).2.1 env (kOf P X f p).2.2
theorem atP_step (f : FuncId) (p : List Nat) (env : Env) : atP P X f p env = stepP P X f p env := loopW_eq P X none _ _ _ _ _ _
def mkEnv : Nat → Nat → List (Nat × PV) → Env
  | 0, _, _ => []
  | n + 1, i, (j, v) :: r => bif i == j then v :: mkEnv n (i + 1) r else .undef :: mkEnv n (i + 1) ((j, v) :: r)
  | n + 1, i, [] => .undef :: mkEnv n (i + 1) []
end
end Go.Proofs.Ythidcpkcfoldmaa.Pi
namespace Go.Proofs.Ythidcpkcfoldmaa.Pi
set_option linter.unusedVariables false
set_option linter.unusedSimpArgs false
theorem nrfl {γ : Sort _} {a b : γ} (h : a = b) : a = b := h
variable {α β : Type} {H : Heap} {k : IntKind} {a b n m : Int} {x y : PV} {ek : EqK}
@[simp] theorem strip_int : strip (.int k n) = .int k n := nrfl rfl
@[simp] theorem strip_bool {t : Bool} : strip (.bool t) = .bool t := nrfl rfl
@[simp] theorem strip_str {s : ByteArray} : strip (.str s) = .str s := nrfl rfl
@[simp] theorem strip_slice {o z : Bool} {sz : Nat} {xs : List PV} : strip (.slice o z sz xs) = .slice false z sz xs := nrfl rfl
@[simp] theorem strip_ptr {i o : Nat} : strip (.ptr i o) = .ptr i o := nrfl rfl
@[simp] theorem strip_agg {cs : List PV} : strip (.agg cs) = .agg cs := nrfl rfl
@[simp] theorem strip_elem {cs : List PV} : strip (.elem cs) = .elem cs := nrfl rfl
@[simp] theorem strip_nil : strip .nil = .nil := nrfl rfl
@[simp] theorem strip_niliface : strip .niliface = .niliface := nrfl rfl
@[simp] theorem strip_iface {t : TypeId} {v : PV} : strip (.iface t v) = .iface t v := nrfl rfl
@[simp] theorem strip_fn {f : FuncId} {u v : List PV} : strip (.fn f u v) = .fn f u v := nrfl rfl
@[simp] theorem strip_undef : strip .undef = .undef := nrfl rfl
@[simp] theorem strip_tup {vs : List PV} : strip (.tup vs) = .tup (vs.map stripC) := nrfl rfl
@[simp] theorem stripC_int : stripC (.int k n) = .int k n := nrfl rfl
@[simp] theorem stripC_bool {t : Bool} : stripC (.bool t) = .bool t := nrfl rfl
@[simp] theorem stripC_str {s : ByteArray} : stripC (.str s) = .str s := nrfl rfl
@[simp] theorem stripC_slice {o z : Bool} {sz : Nat} {xs : List PV} : stripC (.slice o z sz xs) = .slice false z sz xs := nrfl rfl
@[simp] theorem stripC_ptr {i o : Nat} : stripC (.ptr i o) = .ptr i o := nrfl rfl
@[simp] theorem stripC_agg {cs : List PV} : stripC (.agg cs) = .agg cs := nrfl rfl
@[simp] theorem stripC_nil : stripC .nil = .nil := nrfl rfl
@[simp] theorem stripC_niliface : stripC .niliface = .niliface := nrfl rfl
@[simp] theorem stripC_iface {t : TypeId} {v : PV} : stripC (.iface t v) = .iface t v := nrfl rfl
@[simp] theorem stripC_fn {f : FuncId} {u v : List PV} : stripC (.fn f u v) = .fn f u v := nrfl rfl
@[simp] theorem bi_add : bi .add ek (.int k a) (.int k b) = M.pure (.int k (k.wrap (a + b))) := nrfl (by cases k <;> rfl)
@[simp] theorem bi_sub : bi .sub ek (.int k a) (.int k b) = M.pure (.int k (k.wrap (a - b))) := nrfl (by cases k <;> rfl)
@[simp] theorem bi_mul : bi .mul ek (.int k a) (.int k b) = M.pure (.int k (k.wrap (a * b))) := nrfl (by cases k <;> rfl)
@[simp] theorem bi_eql : bi .eql ek (.int k a) (.int k b) = M.pure (.bool (a == b)) := nrfl (by cases k <;> rfl)
@[simp] theorem bi_neq : bi .neq ek (.int k a) (.int k b) = M.pure (.bool (a != b)) := nrfl (by cases k <;> rfl)
@[simp] theorem bi_lss : bi .lss ek (.int k a) (.int k b) = M.pure (.bool (decide (a < b))) := nrfl (by cases k <;> rfl)
@[simp] theorem bi_leq : bi .leq ek (.int k a) (.int k b) = M.pure (.bool (decide (a ≤ b))) := nrfl (by cases k <;> rfl)
@[simp] theorem bi_gtr : bi .gtr ek (.int k a) (.int k b) = M.pure (.bool (decide (a > b))) := nrfl (by cases k <;> rfl)
@[simp] theorem bi_geq : bi .geq ek (.int k a) (.int k b) = M.pure (.bool (decide (a ≥ b))) := nrfl (by cases k <;> rfl)
@[simp] theorem bi_seql {s t : ByteArray} : bi .eql ek (.str s) (.str t) = M.pure (.bool (s.toList == t.toList)) := nrfl rfl
@[simp] theorem bi_sneq {s t : ByteArray} : bi .neq ek (.str s) (.str t) = M.pure (.bool (!(s.toList == t.toList))) := nrfl rfl
@[simp] theorem bi_beql {s t : Bool} : bi .eql .bool (.bool s) (.bool t) = M.pure (.bool (s == t)) := nrfl rfl
@[simp] theorem bi_bneq {s t : Bool} : bi .neq .bool (.bool s) (.bool t) = M.pure (.bool (!(s == t))) := nrfl rfl
@[simp] theorem un_not {t : Bool} : un .not (.bool t) = M.pure (.bool (!t)) := nrfl rfl
@[simp] theorem lnL_slice {o z : Bool} {sz : Nat} {xs : List PV} : lnL (.slice o z sz xs) = M.pure (.int .i64 xs.length) := nrfl rfl
@[simp] theorem lnS_str {s : ByteArray} : lnS (.str s) = M.pure (.int .i64 s.size) := nrfl rfl
@[simp] theorem mx_int : mx (.int k a) (.int k b) = M.pure (.int k (if b > a then b else a)) := nrfl (by cases k <;> rfl)
@[simp] theorem mn_int : mn (.int k a) (.int k b) = M.pure (.int k (if b < a then b else a)) := nrfl (by cases k <;> rfl)
@[simp] theorem cv_int {o : Bool} {j : IntKind} : cv (.int k) o (.int j n) = M.pure (.int k (k.wrap n)) := nrfl rfl
@[simp] theorem ex_tup0 {v : PV} {r : List PV} : ex 0 (.tup (v :: r)) = M.pure v := nrfl rfl
@[simp] theorem ex_tup1 {u v : PV} {r : List PV} : ex 1 (.tup (u :: v :: r)) = M.pure v := nrfl rfl
@[simp] theorem ex_tup2 {t u v : PV} {r : List PV} : ex 2 (.tup (t :: u :: v :: r)) = M.pure v := nrfl rfl
theorem trunc_same {m : M PV} {v : PV} (h : m H = some (.ok v H)) : trunc m H = some (.ok v H) := by
  unfold trunc
  rw [h]
  cases v.low H.length <;> simp
end Go.Proofs.Ythidcpkcfoldmaa.Pi
namespace Go.Proofs.Ythidcpkcfoldmaa.Pi
set_option linter.unusedVariables false
set_option linter.unusedSimpArgs false
variable {P : Program} {X : ExtT}
def gOf (im : Nat → Nat → Option Value) : G := ⟨[], im, fun _ => none⟩
theorem inv_gOf {im : Nat → Nat → Option Value} {w : World} (him : ∀ b o v, im b o = some v → w.cell? ⟨b, o, none⟩ = some v) : Inv (gOf im) [] w :=
  ⟨rfl, fun i j b h => by simp [gOf] at h, him, fun b L s h => by simp [gOf] at h, fun id b y h => by simp [gOf] at h⟩
theorem walk_law (hX : XSound P X) {f : FuncId} {args : List PV} {H' : Heap} (h : callW P X f args [] = some (.ok (.bool true) H')) {im : Nat → Nat → Option Value} {w : World} {cargs : Array Value}
    (him : ∀ b o v, im b o = some v → w.cell? ⟨b, o, none⟩ = some v) (ha : ArgsOk (gOf im) args cargs) : Calls P f cargs w fun e w' => e = .returned (.bool true) ∧ RowKit.Below w.heap.size w w' := by
  obtain ⟨_, hs⟩ := callW_sound hX f args [] _ h
  refine (hs (gOf im) w cargs (inv_gOf him) ha).mono ?_
  rintro e w' ⟨g', hgl, hgr, cv, rfl, hi, hr⟩
  have hv : cv = .bool true := by
    cases hr with
    | one hr => cases hr with
      | pure hr => cases hr with
        | flat hr => cases hr; rfl
  subst hv
  exact ⟨rfl, hgl.os, hgl.tape, hgl.output, hgl.size, fun k hk => (hgl.old k hk rfl (by simp [gOf])).2.2⟩
end Go.Proofs.Ythidcpkcfoldmaa.Pi
namespace Go.Proofs.Ythidcpkcfoldmaa.Pi
set_option linter.unusedVariables false
set_option linter.unusedSimpArgs false
variable {α β : Type} {H : Heap} {k j : IntKind} {a b n m : Int} {x y : PV} {ek : EqK}
def resT (v : PV) (m : M PV) : M PV := bif isTup v then M.fail else m
def hget (H : Heap) (id : Nat) : Option Box := H[id]?
def hset (H : Heap) (id : Nat) (b : Box) : Heap := H.set id b
def hadd (H : Heap) (L : List Box) : Heap := H ++ L
def hcut (H : Heap) (n : Nat) : Heap := H.take n
abbrev hlen (H : Heap) : Nat := List.length H
def run (m : M α) (H : Heap) : Option (Out α) := m H
def bindR (r : Option (Out α)) (f : α → M β) : Option (Out β) :=
  match r with
  | none => none
  | some (.ok v H) => run (f v) H
  | some (.pan v H) => some (.pan v H)
def truncR (H : Heap) (r : Option (Out PV)) : Option (Out PV) :=
  match r with
  | none => none
  | some (.ok v H') => some (.ok v (bif v.low H.length then hcut H' H.length else H'))
  | some (.pan v H') => bif v.low H.length then some (.pan v (hcut H' H.length)) else none
noncomputable def nbR (H : Heap) (r : Option (Out α)) (f : α → M β) : Option (Out β) := nb (fun _ => r) f H
@[congr] theorem bindR_congr {r r' : Option (Out α)} {f : α → M β} (h : r = r') : bindR r f = bindR r' f := by rw [h]
@[congr] theorem nbR_congr {r r' : Option (Out α)} {f : α → M β} (h : r = r') : nbR H r f = nbR H r' f := by rw [h]
@[congr] theorem condM_congr {c c' : PV} {x y : M α} (h : c = c') : condM c x y = condM c' x y := by rw [h]
@[congr] theorem guardM_congr {c c' : Bool} {x : M α} (h : c = c') : guardM c x = guardM c' x := by rw [h]
@[congr] theorem resT_congr {c c' : PV} {x : M PV} (h : c = c') : resT c x = resT c' x := by rw [h]
theorem run_bind {m : M α} {f : α → M β} : run (M.bind m f) H = bindR (run m H) f := nrfl rfl
theorem bindR_ok {f : α → M β} {v : α} {H : Heap} : bindR (some (.ok v H)) f = run (f v) H := nrfl rfl
theorem bindR_none {f : α → M β} : bindR none f = none := nrfl rfl
theorem bindR_pan {f : α → M β} {v : PV} {H : Heap} : bindR (some (.pan v H)) f = some (.pan v H) := nrfl rfl
theorem bindR_ite {c : Prop} [Decidable c] {r r' : Option (Out α)} {f : α → M β} : bindR (if c then r else r') f = if c then bindR r f else bindR r' f := by split <;> rfl
theorem run_nb {m : M α} {f : α → M β} : run (nb m f) H = nbR H (run m H) f := nrfl rfl
theorem nbR_ok {f : α → M β} {v : α} : nbR H (some (.ok v H)) f = run (f v) H := by simp [nbR, nb, run]
theorem nbR_ite {c : Prop} [Decidable c] {r r' : Option (Out α)} {f : α → M β} : nbR H (if c then r else r') f = if c then nbR H r f else nbR H r' f := by split <;> rfl
theorem run_trunc {m : M PV} : run (trunc m) H = truncR H (run m H) := nrfl rfl
theorem truncR_ite {c : Prop} [Decidable c] {r r' : Option (Out PV)} : truncR H (if c then r else r') = if c then truncR H r else truncR H r' := by split <;> rfl
theorem truncR_none : truncR H none = none := nrfl rfl
theorem truncR_ok {v : PV} {H' : Heap} : truncR H (some (.ok v H')) = some (.ok v (if v.low H.length = true then hcut H' H.length else H')) := by
  show some (Out.ok v (bif v.low H.length then hcut H' H.length else H')) = _
  cases v.low H.length <;> rfl
theorem truncR_pan {v : PV} {H' : Heap} : truncR H (some (.pan v H')) = if v.low H.length = true then some (.pan v (hcut H' H.length)) else none := by
  show (bif v.low H.length then some (Out.pan v (hcut H' H.length)) else none) = _
  cases v.low H.length <;> rfl
theorem run_guard {c : Bool} {m : M α} : run (guardM c m) H = if c = true then run m H else none := by cases c <;> rfl
theorem run_resT {v : PV} {m : M PV} : run (resT v m) H = if isTup v = true then none else run m H := by unfold resT; cases isTup v <;> rfl
theorem run_cond {c : Bool} {x y : M α} : run (condM (.bool c) x y) H = if c = true then run x H else run y H := by cases c <;> rfl
theorem run_gdT {c : Bool} {m : M PV} : run (gd (.bool c) true m) H = if c = true then run m H else some (.ok (.tup []) H) := by cases c <;> rfl
theorem run_gdF {c : Bool} {m : M PV} : run (gd (.bool c) false m) H = if c = true then some (.ok (.tup []) H) else run m H := by cases c <;> rfl
theorem strip_skip : strip (.tup []) = .tup [] := nrfl rfl
theorem run_gdS {b : Bool} {m : M PV} : run (gd (.tup []) b m) H = some (.ok (.tup []) H) := nrfl rfl
theorem run_pick {c : Bool} : run (pick (.bool c) x y) H = if c = true then some (.ok (strip x) H) else some (.ok (strip y) H) := by cases c <;> rfl
theorem run_pure {v : α} : run (M.pure v) H = some (.ok v H) := nrfl rfl
theorem run_pan {v : PV} : run (M.pan v : M α) H = some (.pan v H) := nrfl rfl
theorem run_fail : run (M.fail : M α) H = none := nrfl rfl
theorem run_al {cs : List PV} : run (al cs) H = if cs.all isCell = true then some (.ok (.ptr H.length 0) (hadd H [.cells cs])) else none := by unfold run al; cases cs.all isCell <;> rfl
theorem run_bx {n : Nat} {v : PV} : run (bx n v) H = if (v.cells.map stripC).length = n ∧ lowL (H.length + 1) (v.cells.map stripC) = true ∧ v.cells.all isCell = true then some (.ok (.ptr H.length 0) (hadd H [.cells (v.cells.map stripC)])) else none := by
  unfold run bx
  cases h1 : ((v.cells.map stripC).length == n) <;> cases h2 : lowL (H.length + 1) (v.cells.map stripC) <;> cases h3 : v.cells.all isCell <;> simp_all [hadd]
theorem beq_eq_decide' (a b : Nat) : (a == b) = decide (a = b) := by rw [Bool.eq_iff_iff]; simp
def ldB (n : Option Nat) (mv : Bool) (id o : Nat) (H : Heap) : Option Box → Option (Out PV)
  | some (.cells cs) => match n with
      | none => match cs[o]? with
        | some v => bif mv then some (.ok v (hset H id (.cells (cs.set o (stripC v))))) else some (.ok (stripC v) H)
        | none => none
      | some n => bif decide (o + n ≤ cs.length) then some (.ok (.agg (((cs.drop o).take n).map stripC)) H) else none
  | _ => none
theorem run_ld {n : Option Nat} {mv : Bool} {id o : Nat} : run (ld n mv (.ptr id o)) H = ldB n mv id o H (hget H id) := by
  unfold run ld ldB
  rfl
def stB (n : Nat) (mv : Bool) (id o : Nat) (v : PV) (H : Heap) : Option Box → Option (Out PV)
  | some (.cells cs) => bif v.cells.length == n && (decide (o + n ≤ cs.length) && (lowL (id + 1) v.cells && v.cells.all isCell)) then
        some (.ok .undef (hset H id (.cells (fillAt o (bif mv then v.cells else v.cells.map stripC) cs))))
      else none
  | _ => none
theorem run_st {n : Nat} {mv : Bool} {id o : Nat} {v : PV} : run (st n mv (.ptr id o) v) H = stB n mv id o v H (hget H id) := by
  unfold run st stB
  rfl
theorem ldB_some {n : Nat} {mv : Bool} {id o : Nat} {cs : List PV} : ldB (some n) mv id o H (some (.cells cs)) = if o + n ≤ cs.length then some (.ok (.agg (((cs.drop o).take n).map stripC)) H) else none := by
  show (bif decide (o + n ≤ cs.length) then some (Out.ok (PV.agg (((cs.drop o).take n).map stripC)) H) else none) = _
  by_cases h : o + n ≤ cs.length <;> simp [h]
def nth : List α → Nat → Option α
  | [], _ => none
  | v :: _, 0 => some v
  | _ :: r, n + 1 => nth r n
theorem nth_zero {v : α} {r : List α} : nth (v :: r) 0 = some v := nrfl rfl
theorem nth_succ {v : α} {r : List α} {n : Nat} : nth (v :: r) (n + 1) = nth r n := nrfl rfl
theorem nth_is : ∀ (l : List α) (n : Nat), l[n]? = nth l n
  | [], _ => rfl
  | _ :: _, 0 => rfl
  | _ :: r, n + 1 => nth_is r n
def ldTR (H : Heap) (id : Nat) (cs : List PV) (o : Nat) : Option PV → Option (Out PV)
  | some v => some (.ok v (hset H id (.cells (cs.set o (stripC v)))))
  | none => none
def ldFR (H : Heap) : Option PV → Option (Out PV)
  | some v => some (.ok (stripC v) H)
  | none => none
theorem ldTR_some {id : Nat} {cs : List PV} {o : Nat} {v : PV} : ldTR H id cs o (some v) = some (.ok v (hset H id (.cells (cs.set o (stripC v))))) := nrfl rfl
theorem ldFR_some {v : PV} : ldFR H (some v) = some (.ok (stripC v) H) := nrfl rfl
theorem ldB_t {id o : Nat} {cs : List PV} : ldB none true id o H (some (.cells cs)) = ldTR H id cs o (nth cs o) := by
  rw [← nth_is]; rfl
theorem ldB_f {id o : Nat} {cs : List PV} : ldB none false id o H (some (.cells cs)) = ldFR H (nth cs o) := by
  rw [← nth_is]; rfl
theorem stB_is {n : Nat} {mv : Bool} {id o : Nat} {v : PV} {cs : List PV} :
    stB n mv id o v H (some (.cells cs)) = if v.cells.length = n ∧ o + n ≤ cs.length ∧ lowL (id + 1) v.cells = true ∧ v.cells.all isCell = true then some (.ok .undef (hset H id (.cells (fillAt o (if mv = true then v.cells else v.cells.map stripC) cs)))) else none := by
  show (bif v.cells.length == n && (decide (o + n ≤ cs.length) && (lowL (id + 1) v.cells && v.cells.all isCell)) then some (Out.ok PV.undef (hset H id (.cells (fillAt o (bif mv then v.cells else v.cells.map stripC) cs)))) else none) = _
  cases hb : v.cells.all isCell <;> cases hc : lowL (id + 1) v.cells <;> by_cases h1 : v.cells.length = n <;> by_cases h2 : o + n ≤ cs.length <;> cases mv <;> simp [h1, h2, beq_eq_decide' (v.cells.length) n]
theorem run_ldE0 {mv : Bool} {cs : List PV} {c : PV} : run (ld none mv (.elem (c :: cs))) H = some (.ok c H) := nrfl rfl
theorem run_ldEn {mv : Bool} {n : Nat} {cs : List PV} : run (ld (some n) mv (.elem cs)) H = if n ≤ cs.length then some (.ok (.agg (cs.take n)) H) else none := by
  show (bif decide (n ≤ cs.length) then M.pure (PV.agg (cs.take n)) else M.fail) H = _
  by_cases h : n ≤ cs.length <;> simp [h, M.pure, M.fail]
theorem get_loc {L : List Box} (k : Nat) : hget (hadd H L) (H.length + k) = nth L k := by unfold hget hadd; rw [List.getElem?_append_right (Nat.le_add_right _ _), Nat.add_sub_cancel_left, nth_is]
theorem get_loc0 {L : List Box} : hget (hadd H L) H.length = nth L 0 := get_loc 0
theorem get_old {L : List Box} {i : Nat} (h : i < H.length) : hget (hadd H L) i = hget H i := List.getElem?_append_left h
theorem set_loc {L : List Box} {x : Box} (k : Nat) : hset (hadd H L) (H.length + k) x = hadd H (L.set k x) := by unfold hset hadd; rw [List.set_append_right _ _ (Nat.le_add_right _ _), Nat.add_sub_cancel_left]
theorem set_loc0 {L : List Box} {x : Box} : hset (hadd H L) H.length x = hadd H (L.set 0 x) := set_loc 0
theorem set_old {L : List Box} {i : Nat} {x : Box} (h : i < H.length) : hset (hadd H L) i x = hadd (hset H i x) L := List.set_append_left _ _ h
theorem get_set {i : Nat} {x : Box} (h : i < H.length) : hget (hset H i x) i = some x := by unfold hget hset; rw [List.getElem?_set_self h]
theorem get_set_ne {i k : Nat} {x : Box} (h : i ≠ k) : hget (hset H i x) k = hget H k := List.getElem?_set_ne h
theorem set_set {i : Nat} {x y : Box} : hset (hset H i x) i y = hset H i y := List.set_set _
theorem add_add {L K : List Box} : hadd (hadd H L) K = hadd H (L ++ K) := List.append_assoc _ _ _
theorem cut_add {A L : List Box} {n : Nat} (h : n = A.length) : hcut (hadd A L) n = A := by subst h; simp [hcut, hadd]
theorem cut_all {A : List Box} {n : Nat} (h : n = A.length) : hcut A n = A := by subst h; simp [hcut]
theorem cut0 : hcut H H.length = H := cut_all rfl
theorem cut1 {i : Nat} {x : Box} : hcut (hset H i x) H.length = hset H i x := cut_all (by unfold hset; simp)
theorem cut2 {i j : Nat} {x y : Box} : hcut (hset (hset H i x) j y) H.length = hset (hset H i x) j y := cut_all (by unfold hset; simp)
theorem cutA0 {L : List Box} : hcut (hadd H L) H.length = H := cut_add rfl
theorem cutA1 {L : List Box} {i : Nat} {x : Box} : hcut (hadd (hset H i x) L) H.length = hset H i x := cut_add (by unfold hset; simp)
theorem cutA2 {L : List Box} {i j : Nat} {x y : Box} : hcut (hadd (hset (hset H i x) j y) L) H.length = hset (hset H i x) j y := cut_add (by unfold hset; simp)
theorem len_add {L : List Box} : List.length (hadd H L) = H.length + L.length := List.length_append
theorem len_set {i : Nat} {x : Box} : List.length (hset H i x) = H.length := List.length_set
theorem get_loc1 {L : List Box} {i : Nat} {y : Box} (k : Nat) : hget (hadd (hset H i y) L) (H.length + k) = nth L k := by
  have := get_loc (H := hset H i y) (L := L) k
  rwa [len_set] at this
theorem get_loc01 {L : List Box} {i : Nat} {y : Box} : hget (hadd (hset H i y) L) H.length = nth L 0 := get_loc1 0
theorem set_loc1 {L : List Box} {i : Nat} {x y : Box} (k : Nat) : hset (hadd (hset H i y) L) (H.length + k) x = hadd (hset H i y) (L.set k x) := by
  have := set_loc (H := hset H i y) (L := L) (x := x) k
  rwa [len_set] at this
theorem set_loc01 {L : List Box} {i : Nat} {x y : Box} : hset (hadd (hset H i y) L) H.length x = hadd (hset H i y) (L.set 0 x) := set_loc1 0
theorem get_old1 {L : List Box} {i j : Nat} {y : Box} (h : i < H.length) : hget (hadd (hset H j y) L) i = hget (hset H j y) i := get_old (by rw [len_set]; exact h)
theorem set_old1 {L : List Box} {i j : Nat} {x y : Box} (h : i < H.length) : hset (hadd (hset H j y) L) i x = hadd (hset (hset H j y) i x) L := set_old (by rw [len_set]; exact h)
theorem w_i64 (h : -9223372036854775808 ≤ n ∧ n ≤ 9223372036854775807) : IntKind.i64.wrap n = n := by rw [IntKind.wrap_i64]; omega
theorem w_u64 (h : 0 ≤ n ∧ n ≤ 18446744073709551615) : IntKind.u64.wrap n = n := by simp only [IntKind.wrap, IntKind.signed, IntKind.bits]; simp; omega
theorem w_u8 (h : 0 ≤ n ∧ n ≤ 255) : IntKind.u8.wrap n = n := by rw [IntKind.wrap_u8]; omega
theorem w_u32 (h : 0 ≤ n ∧ n ≤ 4294967295) : IntKind.u32.wrap n = n := by rw [IntKind.wrap_u32]; omega
theorem w_i32 (h : -2147483648 ≤ n ∧ n ≤ 2147483647) : IntKind.i32.wrap n = n := by rw [IntKind.wrap_i32]; omega
theorem run_shr (h : 0 ≤ b) : bi .shr ek (.int k a) (.int j b) = M.pure (.int k (a.fdiv (2 ^ shiftN k b))) := by
  have : ¬ b < 0 := by omega
  simp [bi, this]
theorem run_quo (h : b ≠ 0) : bi .quo ek (.int k a) (.int k b) = M.pure (.int k (k.wrap (a.tdiv b))) := by
  have h' : (b == 0) = false := by simpa using h
  cases k <;> simp [bi, intOp, h']
theorem run_rem (h : b ≠ 0) : bi .rem ek (.int k a) (.int k b) = M.pure (.int k (a.tmod b)) := by
  have h' : (b == 0) = false := by simpa using h
  cases k <;> simp [bi, intOp, h']
theorem run_and : bi .and ek (.int k a) (.int k b) = M.pure (.int k (k.wrap (BitVec.ofInt k.bits a &&& BitVec.ofInt k.bits b).toNat)) := by cases k <;> rfl
theorem run_or : bi .or ek (.int k a) (.int k b) = M.pure (.int k (k.wrap (BitVec.ofInt k.bits a ||| BitVec.ofInt k.bits b).toNat)) := by cases k <;> rfl
def iaR (H : Heap) : Option PV → Option (Out PV)
  | some x => some (.ok (.elem x.cells) H)
  | none => none
theorem iaR_some {x : PV} : iaR H (some x) = some (.ok (.elem x.cells) H) := nrfl rfl
theorem run_iaS {o z : Bool} {sz : Nat} {xs : List PV} (h0 : 0 ≤ n) : run (iaS sz (.slice o z sz xs) (.int k n)) H = iaR H xs[n.toNat]? := by
  unfold iaS iaR run
  have h' : decide (0 ≤ n) = true := by simpa using h0
  simp only [h', beq_self_eq_true, Bool.and_self, cond_true, rtPanic, M.fail, M.pure]
  split <;> rename_i h <;> simp only [h] <;> rfl
theorem run_fa {off id o : Nat} : fa off (.ptr id o) = M.pure (.ptr id (o + off)) := nrfl rfl
theorem run_faE {off : Nat} {cs : List PV} : fa off (.elem cs) = M.pure (.elem (cs.drop off)) := nrfl rfl
theorem callV_fn {P : Program} {C : CallT} {f : FuncId} {u v args : List PV} : callV P C (.fn f u v) args = C f (u ++ args ++ v) := nrfl rfl
theorem nc_ptr {P : Program} {i o : Nat} : nc P (.ptr i o) = M.pure (.ptr i o) := nrfl rfl
theorem nc_elem {P : Program} {cs : List PV} : nc P (.elem cs) = M.pure (.elem cs) := nrfl rfl
theorem nc_nil {P : Program} : nc P .nil = M.pan (nilDeref P) := nrfl rfl
theorem run_mi {t : TypeId} {v : PV} : run (mi t v) H = if isVal v = true then some (.ok (.iface t (stripC v)) H) else none := by
  unfold run mi
  cases isVal v <;> rfl
theorem run_pn {t : TypeId} {v : PV} : pn (.iface t v) = M.pan (.iface t v) := nrfl rfl
theorem run_cvI {o : Bool} : cv (.int k) o (.int j n) = M.pure (.int k (k.wrap n)) := nrfl rfl
theorem run_ex0 {v : PV} {r : List PV} : ex 0 (.tup (v :: r)) = M.pure v := nrfl rfl
theorem run_ex1 {u v : PV} {r : List PV} : ex 1 (.tup (u :: v :: r)) = M.pure v := nrfl rfl
theorem run_ex2 {u v x : PV} {r : List PV} : ex 2 (.tup (u :: v :: x :: r)) = M.pure x := nrfl rfl
theorem tupDrop0 {v : PV} {r : List PV} : tupDrop 0 (.tup (v :: r)) = .tup (stripC v :: r) := nrfl rfl
theorem tupDrop1 {u v : PV} {r : List PV} : tupDrop 1 (.tup (u :: v :: r)) = .tup (u :: stripC v :: r) := nrfl rfl
theorem tupDrop2 {u v x : PV} {r : List PV} : tupDrop 2 (.tup (u :: v :: x :: r)) = .tup (u :: v :: stripC x :: r) := nrfl rfl
section
variable {c d : Bool} {s : ByteArray} {i o : Nat} {cs ds : List PV} {N : Nat}
theorem isTup_int : isTup (.int k n) = false := nrfl rfl
theorem isCell_int : isCell (.int k n) = true := nrfl rfl
theorem isVal_int : isVal (.int k n) = true := nrfl rfl
theorem isPtr_int : isPtr (.int k n) = false := nrfl rfl
theorem cells_int : PV.cells (.int k n) = [(.int k n)] := nrfl rfl
theorem low_int : PV.low N (.int k n) = true := by simp only [PV.low]
theorem isTup_bool : isTup (.bool c) = false := nrfl rfl
theorem isCell_bool : isCell (.bool c) = true := nrfl rfl
theorem isVal_bool : isVal (.bool c) = true := nrfl rfl
theorem isPtr_bool : isPtr (.bool c) = false := nrfl rfl
theorem cells_bool : PV.cells (.bool c) = [(.bool c)] := nrfl rfl
theorem low_bool : PV.low N (.bool c) = true := by simp only [PV.low]
theorem isTup_str : isTup (.str s) = false := nrfl rfl
theorem isCell_str : isCell (.str s) = true := nrfl rfl
theorem isVal_str : isVal (.str s) = true := nrfl rfl
theorem isPtr_str : isPtr (.str s) = false := nrfl rfl
theorem cells_str : PV.cells (.str s) = [(.str s)] := nrfl rfl
theorem low_str : PV.low N (.str s) = true := by simp only [PV.low]
theorem isTup_nil : isTup .nil = false := nrfl rfl
theorem isCell_nil : isCell .nil = true := nrfl rfl
theorem isVal_nil : isVal .nil = true := nrfl rfl
theorem isPtr_nil : isPtr .nil = false := nrfl rfl
theorem cells_nil : PV.cells .nil = [.nil] := nrfl rfl
theorem low_nil : PV.low N .nil = true := by simp only [PV.low]
theorem isTup_ptr : isTup (.ptr i o) = false := nrfl rfl
theorem isCell_ptr : isCell (.ptr i o) = true := nrfl rfl
theorem isVal_ptr : isVal (.ptr i o) = true := nrfl rfl
theorem isPtr_ptr : isPtr (.ptr i o) = true := nrfl rfl
theorem cells_ptr : PV.cells (.ptr i o) = [(.ptr i o)] := nrfl rfl
theorem low_ptr : PV.low N (.ptr i o) = decide (i < N) := by simp only [PV.low]
theorem isTup_elem : isTup (.elem cs) = false := nrfl rfl
theorem isCell_elem : isCell (.elem cs) = true := nrfl rfl
theorem isVal_elem : isVal (.elem cs) = true := nrfl rfl
theorem isPtr_elem : isPtr (.elem cs) = false := nrfl rfl
theorem cells_elem : PV.cells (.elem cs) = [(.elem cs)] := nrfl rfl
theorem low_elem : PV.low N (.elem cs) = true := by simp only [PV.low]
theorem isTup_slice : isTup (.slice c d i cs) = false := nrfl rfl
theorem isCell_slice : isCell (.slice c d i cs) = true := nrfl rfl
theorem isVal_slice : isVal (.slice c d i cs) = true := nrfl rfl
theorem isPtr_slice : isPtr (.slice c d i cs) = false := nrfl rfl
theorem cells_slice : PV.cells (.slice c d i cs) = [(.slice c d i cs)] := nrfl rfl
theorem low_slice : PV.low N (.slice c d i cs) = true := by simp only [PV.low]
theorem isTup_fn : isTup (.fn i cs ds) = false := nrfl rfl
theorem isCell_fn : isCell (.fn i cs ds) = true := nrfl rfl
theorem isVal_fn : isVal (.fn i cs ds) = true := nrfl rfl
theorem isPtr_fn : isPtr (.fn i cs ds) = false := nrfl rfl
theorem cells_fn : PV.cells (.fn i cs ds) = [(.fn i cs ds)] := nrfl rfl
theorem low_fn : PV.low N (.fn i cs ds) = (lowL N cs && lowL N ds) := by simp only [PV.low]
theorem isTup_nilfn : isTup .nilfn = false := nrfl rfl
theorem isCell_nilfn : isCell .nilfn = true := nrfl rfl
theorem isVal_nilfn : isVal .nilfn = true := nrfl rfl
theorem isPtr_nilfn : isPtr .nilfn = false := nrfl rfl
theorem cells_nilfn : PV.cells .nilfn = [.nilfn] := nrfl rfl
theorem low_nilfn : PV.low N .nilfn = true := by simp only [PV.low]
theorem isTup_iface : isTup (.iface i x) = false := nrfl rfl
theorem isCell_iface : isCell (.iface i x) = true := nrfl rfl
theorem isVal_iface : isVal (.iface i x) = true := nrfl rfl
theorem isPtr_iface : isPtr (.iface i x) = false := nrfl rfl
theorem cells_iface : PV.cells (.iface i x) = [(.iface i x)] := nrfl rfl
theorem low_iface : PV.low N (.iface i x) = x.low N := by simp only [PV.low]
theorem isTup_niliface : isTup .niliface = false := nrfl rfl
theorem isCell_niliface : isCell .niliface = true := nrfl rfl
theorem isVal_niliface : isVal .niliface = true := nrfl rfl
theorem isPtr_niliface : isPtr .niliface = false := nrfl rfl
theorem cells_niliface : PV.cells .niliface = [.niliface] := nrfl rfl
theorem low_niliface : PV.low N .niliface = true := by simp only [PV.low]
theorem isTup_agg : isTup (.agg cs) = false := nrfl rfl
theorem isCell_agg : isCell (.agg cs) = false := nrfl rfl
theorem isVal_agg : isVal (.agg cs) = true := nrfl rfl
theorem isPtr_agg : isPtr (.agg cs) = false := nrfl rfl
theorem cells_agg : PV.cells (.agg cs) = cs := nrfl rfl
theorem low_agg : PV.low N (.agg cs) = lowL N cs := by simp only [PV.low]
theorem isTup_tup : isTup (.tup cs) = true := nrfl rfl
theorem isCell_tup : isCell (.tup cs) = false := nrfl rfl
theorem isVal_tup : isVal (.tup cs) = false := nrfl rfl
theorem isPtr_tup : isPtr (.tup cs) = false := nrfl rfl
theorem cells_tup : PV.cells (.tup cs) = [(.tup cs)] := nrfl rfl
theorem low_tup : PV.low N (.tup cs) = lowL N cs := by simp only [PV.low]
theorem isTup_undef : isTup .undef = false := nrfl rfl
theorem isCell_undef : isCell .undef = false := nrfl rfl
theorem isVal_undef : isVal .undef = false := nrfl rfl
theorem isPtr_undef : isPtr .undef = false := nrfl rfl
theorem cells_undef : PV.cells .undef = [.undef] := nrfl rfl
theorem low_undef : PV.low N .undef = true := by simp only [PV.low]
end
theorem lowL_nil {n : Nat} : lowL n [] = true := by simp only [lowL]
theorem lowL_cons {n : Nat} {v : PV} {r : List PV} : lowL n (v :: r) = (v.low n && lowL n r) := by simp only [lowL]
def bdR (H : Heap) : Option (List PV) → Option (Out PV)
  | some cs => some (.ok (.agg cs) H)
  | none => none
theorem bdR_some {cs : List PV} : bdR H (some cs) = some (.ok (.agg cs) H) := nrfl rfl
theorem run_bd {zero : List PV} {parts : List (Nat × Nat × PV)} : run (bd zero parts) H = bdR H (fillAll parts zero) := by
  unfold run bd bdR
  cases fillAll parts zero <;> rfl
theorem fillAll_nil {cs : List PV} : fillAll [] cs = some cs := nrfl rfl
theorem fillAll_cons {off size : Nat} {v : PV} {r : List (Nat × Nat × PV)} {cs : List PV} : fillAll ((off, size, v) :: r) cs = if v.cells.length = size ∧ off + size ≤ cs.length ∧ v.cells.all isCell = true then fillAll r (fillAt off (v.cells.map stripC) cs) else none := by
  show (bif v.cells.length == size && (decide (off + size ≤ cs.length) && v.cells.all isCell) then fillAll r (fillAt off (v.cells.map stripC) cs) else none) = _
  cases hb : v.cells.all isCell <;> by_cases h1 : v.cells.length = size <;> by_cases h2 : off + size ≤ cs.length <;> simp [h1, h2, hb, beq_eq_decide' (v.cells.length) size]
theorem fillAt_is {off : Nat} {vs cs : List PV} : fillAt off vs cs = cs.take off ++ vs ++ cs.drop (off + vs.length) := nrfl rfl
def bsR (own : Bool) (a : Option Nat) (vs : List PV) (H : Heap) : Option (Out PV) := if vs.all (isFlatElem a) = true then some (.ok (.slice own false (a.getD 1) vs) H) else none
theorem run_bs {own : Bool} {a : Option Nat} {vs : List PV} : run (bs own a vs) H = bsR own a (vs.map stripC) H := by
  unfold run bs bsR
  cases ((vs.map stripC).all (isFlatElem a)) <;> rfl
def noPanR : Option (Out PV) → Option (Out PV)
  | some (.ok v H) => some (.ok v H)
  | _ => none
theorem run_noPan {m : M PV} : run (noPan m) H = noPanR (run m H) := by
  unfold run noPan noPanR
  cases m H with
  | none => rfl
  | some q => cases q <;> rfl
theorem noPanR_ok {v : PV} {H : Heap} : noPanR (some (.ok v H)) = some (.ok v H) := nrfl rfl
theorem noPanR_pan {v : PV} {H : Heap} : noPanR (some (.pan v H)) = none := nrfl rfl
theorem noPanR_none : noPanR none = none := nrfl rfl
theorem noPanR_ite {c : Prop} [Decidable c] {r r' : Option (Out PV)} : noPanR (if c then r else r') = if c then noPanR r else noPanR r' := by split <;> rfl
noncomputable def chkR (r r' : Option (Out α)) (x : M β) (H : Heap) : Option (Out β) := run (chk (fun _ => r) (fun _ => r') x) H
@[congr] theorem chkR_congr {r r' s s' : Option (Out α)} {x : M β} (h : r = s) (h' : r' = s') : chkR r r' x H = chkR s s' x H := by rw [h, h']
theorem run_chk {m m' : M α} {x : M β} : run (chk m m' x) H = chkR (run m H) (run m' H) x H := nrfl rfl
theorem chkR_ok {a : α} {K : Heap} {x : M β} : chkR (some (.ok a K)) (some (.ok a K)) x H = run x H := by
  simp [chkR, run, chk]
theorem tld_ptr {i o : Nat} : tld (.ptr i o) = .ld i := nrfl rfl
theorem tst_ptr {i o : Nat} : tst (.ptr i o) = .st i := nrfl rfl
theorem tld_elem {cs : List PV} : tld (.elem cs) = .no := nrfl rfl
theorem clash_no {x : Touch} : clash .no x = false := nrfl rfl
theorem clash_no' {y : Touch} : clash y .no = false := by cases y <;> rfl
theorem clash_ld_ld {i j : Nat} : clash (.ld i) (.ld j) = false := nrfl rfl
theorem clash_ld_st {i j : Nat} : clash (.ld j) (.st i) = (i == j) := nrfl rfl
theorem clash_st_ld {i j : Nat} : clash (.st j) (.ld i) = (i == j) := nrfl rfl
theorem clash_st_st {i j : Nat} : clash (.st j) (.st i) = (i == j) := nrfl rfl
theorem clash_any_ld {i : Nat} : clash .any (.ld i) = false := nrfl rfl
theorem clash_ld_any {i : Nat} : clash (.ld i) .any = false := nrfl rfl
theorem clash_any_any : clash .any .any = false := nrfl rfl
def defR (CD : Option PV → CallT) (f : FuncId) (args : List PV) (res : M PV) : Option (Out PV) → Option (Out PV)
  | none => none
  | some (.ok _ H) => bindR (run (CD none f args) H) (fun _ => res)
  | some (.pan v H) => bindR (run (CD (some v) f args) H) (fun r => match r with | .tup [] => res | _ => M.fail)
theorem run_defer {CD : Option PV → CallT} {f : FuncId} {u v args : List PV} {rest res : M PV} : run (deferM CD (.fn f u v) args rest res) H = defR CD f (u ++ args ++ v) res (run rest H) := by
  unfold run deferM defR
  dsimp only
  cases rest H with
  | none => rfl
  | some q => cases q <;> rfl
@[congr] theorem defR_congr {CD : Option PV → CallT} {f : FuncId} {args : List PV} {res : M PV} {r r' : Option (Out PV)} (h : r = r') : defR CD f args res r = defR CD f args res r' := by rw [h]
theorem defR_none {CD : Option PV → CallT} {f : FuncId} {args : List PV} {res : M PV} : defR CD f args res none = none := nrfl rfl
theorem defR_ok {CD : Option PV → CallT} {f : FuncId} {args : List PV} {res : M PV} {v : PV} : defR CD f args res (some (.ok v H)) = bindR (run (CD none f args) H) (fun _ => res) := nrfl rfl
theorem defR_pan {CD : Option PV → CallT} {f : FuncId} {args : List PV} {res : M PV} {v : PV} : defR CD f args res (some (.pan v H)) = bindR (run (CD (some v) f args) H) (fun r => match r with | .tup [] => res | _ => M.fail) := nrfl rfl
theorem defR_ite {CD : Option PV → CallT} {f : FuncId} {args : List PV} {res : M PV} {c : Prop} [Decidable c] {r r' : Option (Out PV)} : defR CD f args res (if c then r else r') = if c then defR CD f args res r else defR CD f args res r' := by split <;> rfl
end Go.Proofs.Ythidcpkcfoldmaa.Pi
namespace Go.Proofs.Ythidcpkcfoldmaa.Pi
set_option linter.unusedVariables false
set_option linter.unusedSimpArgs false
def byt (c : UInt8) : PV := .int .u8 c.toNat
abbrev bytes (b : List UInt8) : List PV := b.map byt
theorem bv_and {w a b : Nat} (ha : a < 2 ^ w) (hb : b < 2 ^ w) : (BitVec.ofInt w (a : Int) &&& BitVec.ofInt w (b : Int)).toNat = a &&& b := by
  rw [BitVec.toNat_and, BitVec.ofInt_natCast, BitVec.ofInt_natCast, BitVec.toNat_ofNat, BitVec.toNat_ofNat, Nat.mod_eq_of_lt ha, Nat.mod_eq_of_lt hb]
theorem and127 (a : Nat) (ha : a < 256) : IntKind.u8.wrap ((BitVec.ofInt IntKind.u8.bits (a : Int) &&& BitVec.ofInt IntKind.u8.bits 127).toNat : Int) = ((a % 128 : Nat) : Int) := by
  have e : (127 : Int) = ((127 : Nat) : Int) := rfl
  have h := bv_and (w := 8) (a := a) (b := 127) ha (by decide)
  rw [show IntKind.u8.bits = 8 from rfl, e, h, Nat.and_two_pow_sub_one_eq_mod a 7]
  exact w_u8 (by omega)
inductive Rs (α : Type) where
  | ok (v : α) (p : Nat)
  | err (p e : Nat)
end Go.Proofs.Ythidcpkcfoldmaa.Pi
namespace Go.Proofs.Ythidcpkcfoldmaa.Pi
set_option linter.unusedVariables false
set_option linter.unusedSimpArgs false
theorem wi (x : Int) : IntKind.i64.wrap x = (x + 9223372036854775808) % 18446744073709551616 - 9223372036854775808 := by rw [IntKind.wrap_i64]
def okS (h c : Nat) : Prop := c < 128 ∧ (c / 2 ^ (h - 1) = 0 ∨ c / 2 ^ (h - 1) = 2 ^ (8 - h) - 1)
instance (h c : Nat) : Decidable (okS h c) := by unfold okS; infer_instance
theorem u8_wrap (n : Int) : IntKind.u8.wrap n = n % 256 := by
  simp [IntKind.wrap, IntKind.bits, IntKind.signed]
end Go.Proofs.Ythidcpkcfoldmaa.Pi
namespace Go.Proofs.Ythidcpkcfoldmaa.Pi
open Go.ChangeShapes Go.WideShapes
set_option linter.unusedVariables false
set_option linter.unusedSimpArgs false
def imOf (w : World) (b o : Nat) : Option Value := w.cell? ⟨b, o, none⟩
theorem imOf_ok (w : World) : ∀ b o v, imOf w b o = some v → w.cell? ⟨b, o, none⟩ = some v := fun _ _ _ h => h
end Go.Proofs.Ythidcpkcfoldmaa.Pi
namespace Go.Proofs.Ythidcpkcfoldmaa.Pi
set_option linter.unusedVariables false
set_option maxRecDepth 100000
theorem goDown : type_of% (And.intro (And.intro (And.intro (And.intro (And.intro @run_bind @bindR_ok) (And.intro @bindR_none @bindR_pan)) (And.intro (And.intro @bindR_ite
    @run_nb) (And.intro @nbR_ok @nbR_ite))) (And.intro (And.intro (And.intro @run_trunc @truncR_ite) (And.intro @truncR_none @truncR_ok)) (And.intro
    (And.intro @truncR_pan @run_guard) (And.intro @run_resT (And.intro @run_cond @run_gdT))))) (And.intro (And.intro (And.intro (And.intro @run_gdF
    @run_gdS) (And.intro @run_pure @run_pan)) (And.intro (And.intro @run_fail @run_noPan) (And.intro @noPanR_ok @noPanR_pan))) (And.intro (And.intro
    (And.intro @noPanR_none @noPanR_ite) (And.intro @run_chk @chkR_ok)) (And.intro (And.intro @run_defer @defR_none) (And.intro @defR_ok (And.intro
    @defR_pan @defR_ite)))))) := (And.intro (And.intro (And.intro (And.intro (And.intro @run_bind @bindR_ok) (And.intro @bindR_none @bindR_pan)) (And.intro (And.intro @bindR_ite
    @run_nb) (And.intro @nbR_ok @nbR_ite))) (And.intro (And.intro (And.intro @run_trunc @truncR_ite) (And.intro @truncR_none @truncR_ok)) (And.intro
    (And.intro @truncR_pan @run_guard) (And.intro @run_resT (And.intro @run_cond @run_gdT))))) (And.intro (And.intro (And.intro (And.intro @run_gdF
    @run_gdS) (And.intro @run_pure @run_pan)) (And.intro (And.intro @run_fail @run_noPan) (And.intro @noPanR_ok @noPanR_pan))) (And.intro (And.intro
    (And.intro @noPanR_none @noPanR_ite) (And.intro @run_chk @chkR_ok)) (And.intro (And.intro @run_defer @defR_none) (And.intro @defR_ok (And.intro
    @defR_pan @defR_ite))))))
theorem goUp : type_of% (And.intro (And.intro (And.intro (And.intro (And.intro (And.intro (And.intro @strip_skip (And.intro @run_pick @run_al)) (And.intro (And.intro @run_bx
    @run_ld) (And.intro @run_st @ldB_some))) (And.intro (And.intro (And.intro @nth_zero @nth_succ) (And.intro @ldTR_some @ldFR_some)) (And.intro
    (And.intro @ldB_t @ldB_f) (And.intro @stB_is @run_ldE0)))) (And.intro (And.intro (And.intro @run_ldEn (And.intro @get_loc @get_loc0)) (And.intro
    (And.intro @get_old @set_loc) (And.intro @set_loc0 @set_old))) (And.intro (And.intro (And.intro @get_set @set_set) (And.intro @add_add @cut0))
    (And.intro (And.intro @cut1 @cut2) (And.intro @cutA0 @cutA1))))) (And.intro (And.intro (And.intro (And.intro @cutA2 (And.intro @len_add @len_set))
    (And.intro (And.intro @w_i64 @w_u64) (And.intro @w_u8 @w_u32))) (And.intro (And.intro (And.intro @w_i32 @run_quo) (And.intro @run_rem @iaR_some))
    (And.intro (And.intro @run_iaS @run_fa) (And.intro @run_faE @callV_fn)))) (And.intro (And.intro (And.intro @nc_ptr (And.intro @nc_elem @nc_nil))
    (And.intro (And.intro @run_mi @run_pn) (And.intro @run_cvI @run_ex0))) (And.intro (And.intro (And.intro @run_ex1 @run_ex2) (And.intro @tupDrop0
    @tupDrop1)) (And.intro (And.intro @tupDrop2 @isTup_int) (And.intro @isCell_int @isVal_int)))))) (And.intro (And.intro (And.intro (And.intro
    (And.intro @isPtr_int (And.intro @cells_int @low_int)) (And.intro (And.intro @isTup_bool @isCell_bool) (And.intro @isVal_bool @isPtr_bool)))
    (And.intro (And.intro (And.intro @cells_bool @low_bool) (And.intro @isTup_str @isCell_str)) (And.intro (And.intro @isVal_str @isPtr_str) (And.intro
    @cells_str @low_str)))) (And.intro (And.intro (And.intro @isTup_nil (And.intro @isCell_nil @isVal_nil)) (And.intro (And.intro @isPtr_nil
    @cells_nil) (And.intro @low_nil @isTup_ptr))) (And.intro (And.intro (And.intro @isCell_ptr @isVal_ptr) (And.intro @isPtr_ptr @cells_ptr))
    (And.intro (And.intro @low_ptr @isTup_elem) (And.intro @isCell_elem @isVal_elem))))) (And.intro (And.intro (And.intro (And.intro @isPtr_elem
    (And.intro @cells_elem @low_elem)) (And.intro (And.intro @isTup_slice @isCell_slice) (And.intro @isVal_slice @isPtr_slice))) (And.intro (And.intro
    (And.intro @cells_slice @low_slice) (And.intro @isTup_fn @isCell_fn)) (And.intro (And.intro @isVal_fn @isPtr_fn) (And.intro @cells_fn @low_fn))))
    (And.intro (And.intro (And.intro @isTup_nilfn (And.intro @isCell_nilfn @isVal_nilfn)) (And.intro (And.intro @isPtr_nilfn @cells_nilfn) (And.intro
    @low_nilfn @isTup_iface))) (And.intro (And.intro (And.intro @isCell_iface @isVal_iface) (And.intro @isPtr_iface @cells_iface)) (And.intro
    (And.intro @low_iface @isTup_niliface) (And.intro @isCell_niliface @isVal_niliface))))))) (And.intro (And.intro (And.intro (And.intro (And.intro
    (And.intro @isPtr_niliface (And.intro @cells_niliface @low_niliface)) (And.intro (And.intro @isTup_agg @isCell_agg) (And.intro @isVal_agg
    @isPtr_agg))) (And.intro (And.intro (And.intro @cells_agg @low_agg) (And.intro @isTup_tup @isCell_tup)) (And.intro (And.intro @isVal_tup
    @isPtr_tup) (And.intro @cells_tup @low_tup)))) (And.intro (And.intro (And.intro @isTup_undef (And.intro @isCell_undef @isVal_undef)) (And.intro
    (And.intro @isPtr_undef @cells_undef) (And.intro @low_undef @lowL_nil))) (And.intro (And.intro (And.intro @lowL_cons @bdR_some) (And.intro @run_bd
    @fillAll_nil)) (And.intro (And.intro @fillAll_cons @fillAt_is) (And.intro @run_bs @tld_ptr))))) (And.intro (And.intro (And.intro (And.intro
    @tst_ptr (And.intro @tld_elem @clash_no)) (And.intro (And.intro @clash_no' @clash_ld_ld) (And.intro @clash_ld_st @clash_st_ld))) (And.intro
    (And.intro (And.intro @clash_st_st @clash_any_ld) (And.intro @clash_ld_any @clash_any_any)) (And.intro (And.intro @strip_int @strip_bool)
    (And.intro @strip_str @strip_slice)))) (And.intro (And.intro (And.intro @strip_ptr (And.intro @strip_agg @strip_elem)) (And.intro (And.intro
    @strip_nil @strip_niliface) (And.intro @strip_iface @strip_fn))) (And.intro (And.intro (And.intro @strip_undef @strip_tup) (And.intro @stripC_int
    @stripC_bool)) (And.intro (And.intro @stripC_str @stripC_slice) (And.intro @stripC_ptr @stripC_agg)))))) (And.intro (And.intro (And.intro
    (And.intro (And.intro @stripC_nil (And.intro @stripC_niliface @stripC_iface)) (And.intro (And.intro @stripC_fn @bi_add) (And.intro @bi_sub
    @bi_mul))) (And.intro (And.intro (And.intro @bi_eql @bi_neq) (And.intro @bi_lss @bi_leq)) (And.intro (And.intro @bi_gtr @bi_geq) (And.intro
    @bi_seql @bi_sneq)))) (And.intro (And.intro (And.intro @bi_beql (And.intro @bi_bneq @un_not)) (And.intro (And.intro @lnL_slice @lnS_str) (And.intro
    @mx_int @mn_int))) (And.intro (And.intro (And.intro @cv_int @Bool.and_true) (And.intro @Bool.true_and @Bool.and_self)) (And.intro (And.intro
    @Bool.not_true @Bool.not_false) (And.intro @Bool.and_false @Bool.false_and))))) (And.intro (And.intro (And.intro (And.intro @Bool.or_true
    (And.intro @Bool.or_false @Bool.true_or)) (And.intro (And.intro @Bool.false_or @Bool.false_eq_true) (And.intro @decide_eq_true_eq @and_self)))
    (And.intro (And.intro (And.intro @and_true @true_and) (And.intro @not_true_eq_false @not_false_eq_true)) (And.intro (And.intro @Nat.zero_add
    @Nat.add_zero) (And.intro @Nat.le_refl @Nat.lt_add_one)))) (And.intro (And.intro (And.intro (And.intro @Nat.lt_irrefl @and_false) (And.intro
    @false_and @Bool.not_eq_true')) (And.intro (And.intro @Bool.not_eq_eq_eq_not @decide_eq_false_iff_not) (And.intro @Bool.and_eq_true
    @Bool.or_eq_true))) (And.intro (And.intro (And.intro @decide_true @decide_false) (And.intro @get_loc1 @get_loc01)) (And.intro (And.intro @set_loc1
    @set_loc01) (And.intro @get_old1 @set_old1)))))))) := (And.intro (And.intro (And.intro (And.intro (And.intro (And.intro (And.intro @strip_skip (And.intro @run_pick @run_al)) (And.intro (And.intro @run_bx
    @run_ld) (And.intro @run_st @ldB_some))) (And.intro (And.intro (And.intro @nth_zero @nth_succ) (And.intro @ldTR_some @ldFR_some)) (And.intro
    (And.intro @ldB_t @ldB_f) (And.intro @stB_is @run_ldE0)))) (And.intro (And.intro (And.intro @run_ldEn (And.intro @get_loc @get_loc0)) (And.intro
    (And.intro @get_old @set_loc) (And.intro @set_loc0 @set_old))) (And.intro (And.intro (And.intro @get_set @set_set) (And.intro @add_add @cut0))
    (And.intro (And.intro @cut1 @cut2) (And.intro @cutA0 @cutA1))))) (And.intro (And.intro (And.intro (And.intro @cutA2 (And.intro @len_add @len_set))
    (And.intro (And.intro @w_i64 @w_u64) (And.intro @w_u8 @w_u32))) (And.intro (And.intro (And.intro @w_i32 @run_quo) (And.intro @run_rem @iaR_some))
    (And.intro (And.intro @run_iaS @run_fa) (And.intro @run_faE @callV_fn)))) (And.intro (And.intro (And.intro @nc_ptr (And.intro @nc_elem @nc_nil))
    (And.intro (And.intro @run_mi @run_pn) (And.intro @run_cvI @run_ex0))) (And.intro (And.intro (And.intro @run_ex1 @run_ex2) (And.intro @tupDrop0
    @tupDrop1)) (And.intro (And.intro @tupDrop2 @isTup_int) (And.intro @isCell_int @isVal_int)))))) (And.intro (And.intro (And.intro (And.intro
    (And.intro @isPtr_int (And.intro @cells_int @low_int)) (And.intro (And.intro @isTup_bool @isCell_bool) (And.intro @isVal_bool @isPtr_bool)))
    (And.intro (And.intro (And.intro @cells_bool @low_bool) (And.intro @isTup_str @isCell_str)) (And.intro (And.intro @isVal_str @isPtr_str) (And.intro
    @cells_str @low_str)))) (And.intro (And.intro (And.intro @isTup_nil (And.intro @isCell_nil @isVal_nil)) (And.intro (And.intro @isPtr_nil
    @cells_nil) (And.intro @low_nil @isTup_ptr))) (And.intro (And.intro (And.intro @isCell_ptr @isVal_ptr) (And.intro @isPtr_ptr @cells_ptr))
    (And.intro (And.intro @low_ptr @isTup_elem) (And.intro @isCell_elem @isVal_elem))))) (And.intro (And.intro (And.intro (And.intro @isPtr_elem
    (And.intro @cells_elem @low_elem)) (And.intro (And.intro @isTup_slice @isCell_slice) (And.intro @isVal_slice @isPtr_slice))) (And.intro (And.intro
    (And.intro @cells_slice @low_slice) (And.intro @isTup_fn @isCell_fn)) (And.intro (And.intro @isVal_fn @isPtr_fn) (And.intro @cells_fn @low_fn))))
    (And.intro (And.intro (And.intro @isTup_nilfn (And.intro @isCell_nilfn @isVal_nilfn)) (And.intro (And.intro @isPtr_nilfn @cells_nilfn) (And.intro
    @low_nilfn @isTup_iface))) (And.intro (And.intro (And.intro @isCell_iface @isVal_iface) (And.intro @isPtr_iface @cells_iface)) (And.intro
    (And.intro @low_iface @isTup_niliface) (And.intro @isCell_niliface @isVal_niliface))))))) (And.intro (And.intro (And.intro (And.intro (And.intro
    (And.intro @isPtr_niliface (And.intro @cells_niliface @low_niliface)) (And.intro (And.intro @isTup_agg @isCell_agg) (And.intro @isVal_agg
    @isPtr_agg))) (And.intro (And.intro (And.intro @cells_agg @low_agg) (And.intro @isTup_tup @isCell_tup)) (And.intro (And.intro @isVal_tup
    @isPtr_tup) (And.intro @cells_tup @low_tup)))) (And.intro (And.intro (And.intro @isTup_undef (And.intro @isCell_undef @isVal_undef)) (And.intro
    (And.intro @isPtr_undef @cells_undef) (And.intro @low_undef @lowL_nil))) (And.intro (And.intro (And.intro @lowL_cons @bdR_some) (And.intro @run_bd
    @fillAll_nil)) (And.intro (And.intro @fillAll_cons @fillAt_is) (And.intro @run_bs @tld_ptr))))) (And.intro (And.intro (And.intro (And.intro
    @tst_ptr (And.intro @tld_elem @clash_no)) (And.intro (And.intro @clash_no' @clash_ld_ld) (And.intro @clash_ld_st @clash_st_ld))) (And.intro
    (And.intro (And.intro @clash_st_st @clash_any_ld) (And.intro @clash_ld_any @clash_any_any)) (And.intro (And.intro @strip_int @strip_bool)
    (And.intro @strip_str @strip_slice)))) (And.intro (And.intro (And.intro @strip_ptr (And.intro @strip_agg @strip_elem)) (And.intro (And.intro
    @strip_nil @strip_niliface) (And.intro @strip_iface @strip_fn))) (And.intro (And.intro (And.intro @strip_undef @strip_tup) (And.intro @stripC_int
    @stripC_bool)) (And.intro (And.intro @stripC_str @stripC_slice) (And.intro @stripC_ptr @stripC_agg)))))) (And.intro (And.intro (And.intro
    (And.intro (And.intro @stripC_nil (And.intro @stripC_niliface @stripC_iface)) (And.intro (And.intro @stripC_fn @bi_add) (And.intro @bi_sub
    @bi_mul))) (And.intro (And.intro (And.intro @bi_eql @bi_neq) (And.intro @bi_lss @bi_leq)) (And.intro (And.intro @bi_gtr @bi_geq) (And.intro
    @bi_seql @bi_sneq)))) (And.intro (And.intro (And.intro @bi_beql (And.intro @bi_bneq @un_not)) (And.intro (And.intro @lnL_slice @lnS_str) (And.intro
    @mx_int @mn_int))) (And.intro (And.intro (And.intro @cv_int @Bool.and_true) (And.intro @Bool.true_and @Bool.and_self)) (And.intro (And.intro
    @Bool.not_true @Bool.not_false) (And.intro @Bool.and_false @Bool.false_and))))) (And.intro (And.intro (And.intro (And.intro @Bool.or_true
    (And.intro @Bool.or_false @Bool.true_or)) (And.intro (And.intro @Bool.false_or @Bool.false_eq_true) (And.intro @decide_eq_true_eq @and_self)))
    (And.intro (And.intro (And.intro @and_true @true_and) (And.intro @not_true_eq_false @not_false_eq_true)) (And.intro (And.intro @Nat.zero_add
    @Nat.add_zero) (And.intro @Nat.le_refl @Nat.lt_add_one)))) (And.intro (And.intro (And.intro (And.intro @Nat.lt_irrefl @and_false) (And.intro
    @false_and @Bool.not_eq_true')) (And.intro (And.intro @Bool.not_eq_eq_eq_not @decide_eq_false_iff_not) (And.intro @Bool.and_eq_true
    @Bool.or_eq_true))) (And.intro (And.intro (And.intro @decide_true @decide_false) (And.intro @get_loc1 @get_loc01)) (And.intro (And.intro @set_loc1
    @set_loc01) (And.intro @get_old1 @set_old1))))))))
end Go.Proofs.Ythidcpkcfoldmaa.Pi
namespace Go.Proofs.Ythidcpkcfoldmaa.Pi
set_option linter.unusedVariables false
set_option linter.unusedSimpArgs false
variable {α β σ : Type} {c : Nat} {H : Heap}
def St (H : Heap) (c : Nat) (bx : Box) (L : List Box) : Heap := hadd (hset H c bx) L
def killR (c : Nat) : Option (Out α) → Option (Out α)
  | some (.pan v H) => some (.pan v (hset H c .dead))
  | r => r
def runK (c : Nat) (m : M α) (H : Heap) : Option (Out α) := killR c (run m H)
def bindK (c : Nat) (r : Option (Out α)) (f : α → M β) : Option (Out β) :=
  match r with
  | none => none
  | some (.ok v H) => runK c (f v) H
  | some (.pan v H) => some (.pan v H)
inductive Res (σ α : Type) where
  | ok (v : α) (s : σ)
  | err (t : TypeId) (l : List Int)
  | no
def fltP (t : TypeId) (l : List Int) : PV := .iface t (.agg (l.map (PV.int .i64)))
theorem fltP_is {t : TypeId} {l : List Int} : fltP t l = .iface t (.agg (l.map (PV.int .i64))) := nrfl rfl
theorem lowL_ints {n : Nat} : ∀ l : List Int, lowL n (l.map (PV.int .i64)) = true
  | [] => lowL_nil
  | a :: r => by rw [List.map_cons, lowL_cons, low_int, lowL_ints r]; rfl
theorem low_fltP {t : TypeId} {l : List Int} {n : Nat} : (fltP t l).low n = true := by
  unfold fltP
  rw [low_iface, low_agg]
  exact lowL_ints l
def Res.bind {σ τ α β : Type} (r : Res σ α) (g : α → σ → Res τ β) : Res τ β :=
  match r with
  | .ok v s => g v s
  | .err t l => .err t l
  | .no => .no
def elimK {σ α γ : Type} (c : Nat) (H : Heap) (L : List Box) (r : Res σ α) (g : α → σ → Option (Out γ)) : Option (Out γ) :=
  match r with
  | .ok v s => g v s
  | .err t l => some (.pan (fltP t l) (St H c .dead L))
  | .no => none
def outK (c : Nat) (H : Heap) (L : List Box) (bx : σ → Box) (enc : α → PV) (r : Res σ α) : Option (Out PV) := elimK c H L r fun v s => some (.ok (enc v) (St H c (bx s) L))
def outS (c : Nat) (H : Heap) (L : List Box) (bx : σ → Box) (enc : α → PV) (r : α × σ) : Option (Out PV) := some (.ok (enc r.1) (St H c (bx r.2) L))
@[congr] theorem bindK_congr {r r' : Option (Out α)} {f : α → M β} (h : r = r') : bindK c r f = bindK c r' f := by rw [h]
@[congr] theorem elimK_congr {σ α γ : Type} {L L' : List Box} {r r' : Res σ α} {g g' : α → σ → Option (Out γ)} (h : r = r') (hL : L = L') (hg : ∀ v s, r' = .ok v s → g v s = g' v s) : elimK c H L r g = elimK c H L' r' g' := by
  subst h hL
  cases r with
  | ok v s => exact hg v s rfl
  | err t l => rfl
  | no => rfl
theorem outK_is {L : List Box} {bx : σ → Box} {enc : α → PV} {r : Res σ α} : outK c H L bx enc r = elimK c H L r fun v s => some (.ok (enc v) (St H c (bx s) L)) := nrfl rfl
theorem outK_ok {L : List Box} {bx : σ → Box} {enc : α → PV} {v : α} {s : σ} : outK c H L bx enc (.ok v s) = some (.ok (enc v) (St H c (bx s) L)) := nrfl rfl
theorem outK_err {L : List Box} {bx : σ → Box} {enc : α → PV} {t : TypeId} {l : List Int} : outK c H L bx enc (Res.err t l : Res σ α) = some (.pan (fltP t l) (St H c .dead L)) := nrfl rfl
theorem outK_no {L : List Box} {bx : σ → Box} {enc : α → PV} : outK c H L bx enc (Res.no : Res σ α) = none := nrfl rfl
theorem elimK_no {γ : Type} {L : List Box} {g : α → σ → Option (Out γ)} : elimK c H L (Res.no : Res σ α) g = none := nrfl rfl
theorem outK_bind {τ : Type} {β : Type} {L : List Box} {bx : σ → Box} {enc : α → PV} {r : Res τ β} {g : β → τ → Res σ α} : outK c H L bx enc (r.bind g) = elimK c H L r fun v s => outK c H L bx enc (g v s) := by cases r <;> rfl
theorem outK_ite {L : List Box} {bx : σ → Box} {enc : α → PV} {p : Prop} [Decidable p] {r r' : Res σ α} : outK c H L bx enc (if p then r else r') = if p then outK c H L bx enc r else outK c H L bx enc r' := by split <;> rfl
theorem elimK_ok {γ : Type} {L : List Box} {v : α} {s : σ} {g : α → σ → Option (Out γ)} : elimK c H L (.ok v s) g = g v s := nrfl rfl
theorem elimK_err {γ : Type} {L : List Box} {t : TypeId} {l : List Int} {g : α → σ → Option (Out γ)} : elimK c H L (Res.err t l : Res σ α) g = some (.pan (fltP t l) (St H c .dead L)) := nrfl rfl
theorem elimK_ite {γ : Type} {L : List Box} {p : Prop} [Decidable p] {r r' : Res σ α} {g : α → σ → Option (Out γ)} : elimK c H L (if p then r else r') g = if p then elimK c H L r g else elimK c H L r' g := by split <;> rfl
theorem elimK_bind {γ τ β : Type} {L : List Box} {r : Res τ β} {f : β → τ → Res σ α} {g : α → σ → Option (Out γ)} : elimK c H L (r.bind f) g = elimK c H L r fun v s => elimK c H L (f v s) g := by cases r <;> rfl
theorem killR_ok {v : α} : killR c (some (.ok v H)) = some (.ok v H) := nrfl rfl
theorem killR_none : killR c (none : Option (Out α)) = none := nrfl rfl
theorem killR_pan {v : PV} : killR c (some (.pan v H) : Option (Out α)) = some (.pan v (hset H c .dead)) := nrfl rfl
theorem killR_ite {p : Prop} [Decidable p] {r r' : Option (Out α)} : killR c (if p then r else r') = if p then killR c r else killR c r' := by split <;> rfl
theorem runK_bind {m : M α} {f : α → M β} : runK c (M.bind m f) H = bindK c (runK c m H) f := by
  unfold runK
  rw [run_bind]
  cases run m H with
  | none => rfl
  | some q => cases q <;> rfl
theorem bindK_ok {f : α → M β} {v : α} : bindK c (some (.ok v H)) f = runK c (f v) H := nrfl rfl
theorem bindK_none {f : α → M β} : bindK c none f = none := nrfl rfl
theorem bindK_pan {f : α → M β} {v : PV} : bindK c (some (.pan v H)) f = some (.pan v H) := nrfl rfl
theorem bindK_ite {p : Prop} [Decidable p] {r r' : Option (Out α)} {f : α → M β} : bindK c (if p then r else r') f = if p then bindK c r f else bindK c r' f := by split <;> rfl
theorem bindK_elim {L : List Box} {r : Res σ α} {g : α → σ → Option (Out PV)} {f : PV → M β} : bindK c (elimK c H L r g) f = elimK c H L r fun v s => bindK c (g v s) f := by cases r <;> rfl
noncomputable def nbK (c : Nat) (H : Heap) (r : Option (Out α)) (f : α → M β) : Option (Out β) := killR c (nbR H r f)
@[congr] theorem nbK_congr {r r' : Option (Out α)} {f : α → M β} (h : r = r') : nbK c H r f = nbK c H r' f := by rw [h]
theorem runK_nb {m : M α} {f : α → M β} : runK c (nb m f) H = nbK c H (runK c m H) f := by
  unfold nbK runK nbR run nb killR
  dsimp only
  cases m H with
  | none => rfl
  | some q => cases q <;> rfl
theorem nbK_ok {f : α → M β} {v : α} : nbK c H (some (.ok v H)) f = runK c (f v) H := by
  unfold nbK
  rw [nbR_ok]
  rfl
theorem nbK_none {f : α → M β} : nbK c H none f = none := by
  unfold nbK nbR nb
  rfl
theorem nbK_ite {p : Prop} [Decidable p] {r r' : Option (Out α)} {f : α → M β} : nbK c H (if p then r else r') f = if p then nbK c H r f else nbK c H r' f := by split <;> rfl
theorem runK_trunc {m : M PV} (hc : c < List.length H) : runK c (trunc m) H = truncR H (runK c m H) := by
  unfold runK
  rw [run_trunc]
  cases run m H with
  | none => rfl
  | some q => cases q with
    | ok v K => rfl
    | pan v K =>
      show killR c (bif v.low H.length then some (Out.pan v (hcut K H.length)) else none) = (bif v.low H.length then some (Out.pan v (hcut (hset K c .dead) H.length)) else none)
      cases v.low H.length with
      | false => rfl
      | true =>
        simp only [cond_true, killR_pan, Option.some.injEq, Out.pan.injEq, true_and]
        unfold hset hcut
        rw [List.take_set]
theorem runK_guard {p : Bool} {m : M α} : runK c (guardM p m) H = if p = true then runK c m H else none := by cases p <;> rfl
theorem runK_resT {v : PV} {m : M PV} : runK c (resT v m) H = if isTup v = true then none else runK c m H := by unfold resT; cases isTup v <;> rfl
theorem runK_cond {p : Bool} {x y : M α} : runK c (condM (.bool p) x y) H = if p = true then runK c x H else runK c y H := by cases p <;> rfl
theorem runK_gdT {p : Bool} {m : M PV} : runK c (gd (.bool p) true m) H = if p = true then runK c m H else some (.ok (.tup []) H) := by cases p <;> rfl
theorem runK_gdF {p : Bool} {m : M PV} : runK c (gd (.bool p) false m) H = if p = true then some (.ok (.tup []) H) else runK c m H := by cases p <;> rfl
theorem runK_gdS {b : Bool} {m : M PV} : runK c (gd (.tup []) b m) H = some (.ok (.tup []) H) := nrfl rfl
theorem runK_pure {v : α} : runK c (M.pure v) H = some (.ok v H) := nrfl rfl
theorem runK_pan {v : PV} : runK c (M.pan v : M α) H = some (.pan v (hset H c .dead)) := nrfl rfl
theorem runK_fail : runK c (M.fail : M α) H = none := nrfl rfl
theorem runK_noPan {m : M PV} : runK c (noPan m) H = noPanR (run m H) := by
  unfold runK
  rw [run_noPan]
  cases run m H with
  | none => rfl
  | some q => cases q <;> rfl
noncomputable def chkK (c : Nat) (r r' : Option (Out α)) (x : M β) (H : Heap) : Option (Out β) := killR c (chkR r r' x H)
@[congr] theorem chkK_congr {r r' s s' : Option (Out α)} {x : M β} (h : r = s) (h' : r' = s') : chkK c r r' x H = chkK c s s' x H := by rw [h, h']
theorem runK_chk {m m' : M α} {x : M β} : runK c (chk m m' x) H = chkK c (run m H) (run m' H) x H := nrfl rfl
theorem chkK_ok {a : α} {K : Heap} {x : M β} : chkK c (some (.ok a K)) (some (.ok a K)) x H = runK c x H := by
  unfold chkK
  rw [chkR_ok]
  rfl
theorem chkK_none {r : Option (Out α)} {x : M β} : chkK c none r x H = none := by
  unfold chkK chkR run chk
  rfl
theorem chkK_ite {p : Prop} [Decidable p] {r r' s : Option (Out α)} {x : M β} : chkK c (if p then r else r') s x H = if p then chkK c r s x H else chkK c r' s x H := by split <;> rfl
theorem chkR_none {r : Option (Out α)} {x : M β} : chkR none r x H = none := by
  unfold chkR run chk
  rfl
theorem chkR_ite {p : Prop} [Decidable p] {r r' s : Option (Out α)} {x : M β} : chkR (if p then r else r') s x H = if p then chkR r s x H else chkR r' s x H := by split <;> rfl
section
variable {n : Nat} {id o : Nat} {x y v i : PV} {cs : List PV} {m : Option Nat} {mv b : Bool} {L : List Box}
theorem runK_al : runK c (al cs) H = killR c (run (al cs) H) := nrfl rfl
theorem runK_bx : runK c (bx n v) H = killR c (run (bx n v) H) := nrfl rfl
theorem runK_ld : runK c (ld m mv v) H = killR c (run (ld m mv v) H) := nrfl rfl
theorem runK_st : runK c (st n mv x v) H = killR c (run (st n mv x v) H) := nrfl rfl
theorem runK_iaS : runK c (iaS n x i) H = killR c (run (iaS n x i) H) := nrfl rfl
theorem runK_ixA {len : Nat} : runK c (ixA len n m x i) H = killR c (run (ixA len n m x i) H) := nrfl rfl
theorem runK_pick : runK c (pick v x y) H = killR c (run (pick v x y) H) := nrfl rfl
theorem runK_mi {t : TypeId} : runK c (mi t v) H = killR c (run (mi t v) H) := nrfl rfl
theorem runK_mf {t : FuncId} {l l' : List PV} : runK c (mf t l l') H = killR c (run (mf t l l') H) := nrfl rfl
theorem runK_bd {z : List PV} {ps : List (Nat × Nat × PV)} : runK c (bd z ps) H = killR c (run (bd z ps) H) := nrfl rfl
theorem runK_bs {l : List PV} : runK c (bs b m l) H = killR c (run (bs b m l) H) := nrfl rfl
theorem runK_ap {k : Nat} : runK c (ap b n k x y) H = killR c (run (ap b n k x y) H) := nrfl rfl
theorem runK_mk {k : Nat} : runK c (mk b n k x y) H = killR c (run (mk b n k x y) H) := nrfl rfl
theorem runK_lnS : runK c (lnS x) H = killR c (run (lnS x) H) := nrfl rfl
theorem runK_lnL : runK c (lnL x) H = killR c (run (lnL x) H) := nrfl rfl
theorem runK_ixS : runK c (ixS x i) H = killR c (run (ixS x i) H) := nrfl rfl
theorem runK_slS {lo hi : Option PV} : runK c (slS x lo hi) H = killR c (run (slS x lo hi) H) := nrfl rfl
theorem runK_slL {lo hi : Option PV} : runK c (slL n x lo hi) H = killR c (run (slL n x lo hi) H) := nrfl rfl
theorem runK_cv {k : Cv} : runK c (cv k b x) H = killR c (run (cv k b x) H) := nrfl rfl
theorem runK_ex : runK c (ex n x) H = killR c (run (ex n x) H) := nrfl rfl
theorem runK_bi {op : BinOp} {ek : EqK} : runK c (bi op ek x y) H = killR c (run (bi op ek x y) H) := nrfl rfl
theorem toK {m : M PV} : runK c m H = killR c (run m H) := nrfl rfl
theorem St_flat {x : Box} (hc : c < List.length H) : St H c x L = St (hadd H L) c x [] := by
  unfold St hadd hset
  rw [List.append_nil, List.set_append_left _ _ hc]
theorem St_out {x : Box} {K : Heap} {L' : List Box} (hK : K = hadd H L) (hc : c < List.length H) : St K c x L' = St H c x (L ++ L') := by
  subst hK
  unfold St hadd hset
  rw [List.set_append_left _ _ hc, List.append_assoc]
theorem len_St {x : Box} : List.length (St H c x L) = List.length H + List.length L := by unfold St; rw [len_add, len_set]
theorem get_St {x : Box} (hc : c < List.length H) : hget (St H c x L) c = some x := by unfold St; rw [get_old1 hc, get_set hc]
theorem get_StL {x : Box} (k : Nat) : hget (St H c x L) (List.length H + k) = nth L k := get_loc1 k
theorem get_StL0 {x : Box} : hget (St H c x L) (List.length H) = nth L 0 := get_loc01
theorem set_St {x y : Box} (hc : c < List.length H) : hset (St H c x L) c y = St H c y L := by unfold St; rw [set_old1 hc, set_set]
theorem set_StL {x y : Box} (k : Nat) : hset (St H c x L) (List.length H + k) y = St H c x (L.set k y) := set_loc1 k
theorem set_StL0 {x y : Box} : hset (St H c x L) (List.length H) y = St H c x (L.set 0 y) := set_loc01
theorem add_St {x : Box} {K : List Box} : hadd (St H c x L) K = St H c x (L ++ K) := add_add
theorem cut_St {x : Box} : hcut (St H c x L) (List.length H) = St H c x [] := by
  unfold St
  rw [cutA1]
  exact (List.append_nil _).symm
theorem truncR_elim {r : Res σ α} {bx : Box} {g : α → σ → Option (Out PV)} : truncR (St H c bx []) (elimK c H L r g) = elimK c H [] r fun v s => truncR (St H c bx []) (g v s) := by
  cases r with
  | ok v s => rfl
  | err t l =>
    show truncR (St H c bx []) (some (Out.pan (fltP t l) (St H c .dead L))) = some (Out.pan (fltP t l) (St H c .dead []))
    rw [truncR_pan, if_pos low_fltP, len_St, List.length_nil, Nat.add_zero, cut_St]
  | no => rfl
theorem runK_truncS {m : M PV} {x : Box} (hc : c < List.length H) : runK c (trunc m) (St H c x L) = truncR (St H c x L) (runK c m (St H c x L)) := runK_trunc (by rw [len_St]; omega)
theorem liftK {m : M PV} {x : Box} {bx : σ → Box} {enc : α → PV} {r : Res σ α} (h : ∀ H, c < List.length H → runK c m (St H c x []) = outK c H [] bx enc r) (hc : c < List.length H) : runK c m (St H c x L) = outK c H L bx enc r := by
  rw [St_flat hc, h _ (by rw [len_add]; omega)]
  cases r with
  | ok v s => rw [outK_ok, outK_ok, St_flat (L := L) hc]
  | err t l => rw [outK_err, outK_err, St_flat (L := L) hc]
  | no => rfl
theorem liftS {m : M PV} {x : Box} {bx : σ → Box} {enc : α → PV} {r : α × σ} (h : ∀ H, c < List.length H → run m (St H c x []) = outS c H [] bx enc r) (hc : c < List.length H) : run m (St H c x L) = outS c H L bx enc r := by
  rw [St_flat hc, h _ (by rw [len_add]; omega)]
  unfold outS
  rw [St_flat (L := L) hc]
theorem outS_is {bx : σ → Box} {enc : α → PV} {v : α} {s : σ} : outS c H L bx enc (v, s) = some (.ok (enc v) (St H c (bx s) L)) := nrfl rfl
theorem bindR_S {bx : σ → Box} {enc : α → PV} {r : α × σ} {f : PV → M β} : bindR (outS c H L bx enc r) f = run (f (enc r.1)) (St H c (bx r.2) L) := nrfl rfl
end
end Go.Proofs.Ythidcpkcfoldmaa.Pi
namespace Go.Proofs.Ythidcpkcfoldmaa.Pi
set_option linter.unusedVariables false
set_option maxRecDepth 100000
theorem kDown : type_of% (And.intro (And.intro (And.intro (And.intro (And.intro @outK_ok @outK_err) (And.intro @outK_no (And.intro @elimK_no @outK_bind))) (And.intro
    (And.intro @outK_ite @elimK_ok) (And.intro @elimK_err (And.intro @elimK_ite @elimK_bind)))) (And.intro (And.intro (And.intro @killR_ok @killR_none)
    (And.intro @killR_pan (And.intro @killR_ite @runK_bind))) (And.intro (And.intro @bindK_ok (And.intro @bindK_none @bindK_pan)) (And.intro @bindK_ite
    (And.intro @bindK_elim @truncR_elim))))) (And.intro (And.intro (And.intro (And.intro @runK_nb @nbK_ok) (And.intro @nbK_none (And.intro @nbK_ite
    @runK_truncS))) (And.intro (And.intro @runK_guard (And.intro @runK_resT @runK_cond)) (And.intro @runK_gdT (And.intro @runK_gdF @runK_gdS))))
    (And.intro (And.intro (And.intro @runK_pure @runK_pan) (And.intro @runK_fail (And.intro @runK_noPan @runK_chk))) (And.intro (And.intro @chkK_ok
    (And.intro @chkK_none @chkK_ite)) (And.intro @chkR_none (And.intro @chkR_ite @bindR_S)))))) := (And.intro (And.intro (And.intro (And.intro (And.intro @outK_ok @outK_err) (And.intro @outK_no (And.intro @elimK_no @outK_bind))) (And.intro
    (And.intro @outK_ite @elimK_ok) (And.intro @elimK_err (And.intro @elimK_ite @elimK_bind)))) (And.intro (And.intro (And.intro @killR_ok @killR_none)
    (And.intro @killR_pan (And.intro @killR_ite @runK_bind))) (And.intro (And.intro @bindK_ok (And.intro @bindK_none @bindK_pan)) (And.intro @bindK_ite
    (And.intro @bindK_elim @truncR_elim))))) (And.intro (And.intro (And.intro (And.intro @runK_nb @nbK_ok) (And.intro @nbK_none (And.intro @nbK_ite
    @runK_truncS))) (And.intro (And.intro @runK_guard (And.intro @runK_resT @runK_cond)) (And.intro @runK_gdT (And.intro @runK_gdF @runK_gdS))))
    (And.intro (And.intro (And.intro @runK_pure @runK_pan) (And.intro @runK_fail (And.intro @runK_noPan @runK_chk))) (And.intro (And.intro @chkK_ok
    (And.intro @chkK_none @chkK_ite)) (And.intro @chkR_none (And.intro @chkR_ite @bindR_S))))))
theorem kUp : type_of% (And.intro (And.intro (And.intro (And.intro (And.intro @outK_is @outS_is) (And.intro @fltP_is @low_fltP)) (And.intro (And.intro @runK_al @runK_bx)
    (And.intro @runK_ld @runK_st))) (And.intro (And.intro (And.intro @runK_iaS @runK_ixA) (And.intro @runK_pick @runK_mi)) (And.intro (And.intro
    @runK_mf @runK_bd) (And.intro @runK_bs (And.intro @runK_ap @runK_mk))))) (And.intro (And.intro (And.intro (And.intro @runK_lnS @runK_lnL)
    (And.intro @runK_ixS @runK_slS)) (And.intro (And.intro @runK_slL @runK_cv) (And.intro @runK_ex @runK_bi))) (And.intro (And.intro (And.intro @len_St
    @get_St) (And.intro @get_StL @get_StL0)) (And.intro (And.intro @set_St @set_StL) (And.intro @set_StL0 (And.intro @add_St @cut_St)))))) := (And.intro (And.intro (And.intro (And.intro (And.intro @outK_is @outS_is) (And.intro @fltP_is @low_fltP)) (And.intro (And.intro @runK_al @runK_bx)
    (And.intro @runK_ld @runK_st))) (And.intro (And.intro (And.intro @runK_iaS @runK_ixA) (And.intro @runK_pick @runK_mi)) (And.intro (And.intro
    @runK_mf @runK_bd) (And.intro @runK_bs (And.intro @runK_ap @runK_mk))))) (And.intro (And.intro (And.intro (And.intro @runK_lnS @runK_lnL)
    (And.intro @runK_ixS @runK_slS)) (And.intro (And.intro @runK_slL @runK_cv) (And.intro @runK_ex @runK_bi))) (And.intro (And.intro (And.intro @len_St
    @get_St) (And.intro @get_StL @get_StL0)) (And.intro (And.intro @set_St @set_StL) (And.intro @set_StL0 (And.intro @add_St @cut_St))))))
end Go.Proofs.Ythidcpkcfoldmaa.Pi
namespace Go.Proofs.Ythidcpkcfoldmaa.Pi.Q
open Go Go.Proofs.Ythidcpkcfoldmaa.Pi
set_option linter.unusedVariables false
noncomputable abbrev P : Program := Try.prog
noncomputable abbrev X : ExtT := fun _ => none
noncomputable abbrev C := callW P X
noncomputable abbrev CD := callDW P X
abbrev k_ratchetlaw09_InstrWrites : FuncId := 5
abbrev k_instr_Name : FuncId := 6
abbrev k_ratchetref09_Form : FuncId := 9
abbrev k_ratchetlaw09_awake : FuncId := 12
abbrev k_instr_Write : FuncId := 15
abbrev k_ratchetref09_Write : FuncId := 16
abbrev k_instr_find : FuncId := 17
abbrev k_ratchetref09_find : FuncId := 18
abbrev k_instr_pen_u : FuncId := 21
abbrev k_instr_pen_must : FuncId := 22
abbrev k_instr_pen_put : FuncId := 23
abbrev k_entry_PutBlockType : FuncId := 24
abbrev k_instr_pen_try : FuncId := 25
abbrev k_instr_pen_lists : FuncId := 26
abbrev k_instr_pen_mem : FuncId := 27
abbrev k_instr_pen_refs : FuncId := 28
abbrev k_instr_pen_brCast : FuncId := 29
abbrev k_instr_pen_constant : FuncId := 30
abbrev k_ratchetref09_writing_opcode : FuncId := 31
abbrev k_ratchetref09_writing_block : FuncId := 32
abbrev k_ratchetref09_writing_clauses : FuncId := 33
abbrev k_ratchetref09_writing_u : FuncId := 34
abbrev k_ratchetref09_writing_val : FuncId := 35
abbrev k_ratchetref09_writing_mem : FuncId := 36
abbrev k_ratchetref09_writing_casts : FuncId := 37
abbrev k_ratchetref09_writing_consts : FuncId := 38
abbrev k_instr_within : FuncId := 39
abbrev k_instr_numbers : FuncId := 40
abbrev k_instr_others : FuncId := 41
abbrev k_ratchetref09_table : FuncId := 42
abbrev k_ratchetref09_refs : FuncId := 43
abbrev k_ratchetref09_nth : FuncId := 44
abbrev k_instr_nth : FuncId := 45
abbrev k_leb_PutU : FuncId := 46
abbrev k_entry_write : FuncId := 47
abbrev k_entry_PutBlockType_1 : FuncId := 48
abbrev k_entry_pen_must : FuncId := 49
abbrev k_entry_fits : FuncId := 50
abbrev k_leb_PutS : FuncId := 51
abbrev k_entry_pen_byte : FuncId := 52
abbrev k_entry_pen_val : FuncId := 53
abbrev k_entry_PutValType : FuncId := 54
abbrev k_entry_PutHeapType : FuncId := 55
abbrev k_leb_PutF32 : FuncId := 56
abbrev k_leb_PutF64 : FuncId := 57
abbrev k_ratchetref08_PutBlockType : FuncId := 58
abbrev k_ratchetref01_PutU : FuncId := 59
abbrev k_ratchetref08_PutValType : FuncId := 60
abbrev k_ratchetref09_writing_refs : FuncId := 61
abbrev k_ratchetref09_writing_heap : FuncId := 62
abbrev k_ratchetref01_PutS : FuncId := 63
abbrev k_ratchetref01_PutFixed : FuncId := 64
abbrev k_entry_write_1 : FuncId := 65
abbrev k_entry_pen_heap : FuncId := 66
abbrev k_entry_PutValType_1 : FuncId := 67
abbrev k_entry_PutHeapType_1 : FuncId := 68
abbrev k_leb_bits : FuncId := 69
abbrev k_ratchetref08_writing_must : FuncId := 70
abbrev k_ratchetref08_writing_val : FuncId := 71
abbrev k_ratchetref08_writing_done : FuncId := 72
abbrev k_ratchetref08_PutHeapType : FuncId := 73
abbrev k_entry_abstract : FuncId := 74
abbrev k_ratchetref08_writing_heap : FuncId := 75
abbrev k_ratchetref08_code : FuncId := 76
abbrev k_ratchetref08_abstract : FuncId := 77
abbrev y_entry_fault : TypeId := 111
end Go.Proofs.Ythidcpkcfoldmaa.Pi.Q
namespace Go.Proofs.Ythidcpkcfoldmaa.Pi.Q
open Go Go.Proofs.Ythidcpkcfoldmaa.Pi
set_option linter.unusedVariables false
set_option maxRecDepth 100000
theorem ratchetlaw09_InstrWrites_eq (a0 : PV) : C k_ratchetlaw09_InstrWrites [a0] =
 trunc (M.bind (bx 17 a0) fun t1_0 =>
 M.bind (ld (some 17) false t1_0) fun t8_1 =>
 M.bind (C k_instr_Write [(strip t8_1)]) fun t9_2 =>
 M.bind (ex 0 (strip t9_2)) fun t10_3 =>
 M.bind (ex 1 (tupDrop 0 (strip t9_2))) fun t11_4 =>
 M.bind (ld (some 17) false t1_0) fun t13_5 =>
 M.bind (C k_ratchetref09_Write [(strip t13_5)]) fun t14_6 =>
 M.bind (ex 0 (strip t14_6)) fun t15_7 =>
 M.bind (ex 1 (tupDrop 0 (strip t14_6))) fun t16_8 =>
 M.bind (cv .bytesToStr true (strip t10_3)) fun t18_9 =>
 M.bind (cv .bytesToStr true (strip t15_7)) fun t20_10 =>
 M.bind (bi .eql .none t18_9 t20_10) fun t21_11 =>
 M.bind (gd (strip t21_11) true (M.pure (strip t11_4))) fun t23_12 =>
 M.bind (gd (strip t21_11) true (M.pure (strip t16_8))) fun t24_13 =>
 M.bind (gd (strip t21_11) true (bi .eql .none t23_12 t24_13)) fun t25_14 =>
 M.bind (pick (strip t21_11) t25_14 (.bool false)) fun t26_15 =>
 M.bind (gd (strip t26_15) true (C k_ratchetlaw09_awake [])) fun t28_16 =>
 M.bind (pick (strip t26_15) t28_16 (.bool false)) fun t29_17 =>
 resT t29_17 (M.pure t29_17)) := by
 rw [C, callW_eq _ _ rfl]; kernel_rfl
theorem instr_Name_eq (a0 : PV) : C k_instr_Name [a0] =
 trunc (M.bind (C k_instr_find [(strip (strip a0))]) fun t4_0 =>
 M.bind (fd 1 none t4_0) fun t5_1 =>
 resT t5_1 (M.pure t5_1)) := by
 rw [C, callW_eq _ _ rfl]; kernel_rfl
theorem ratchetref09_Form_eq (a0 : PV) : C k_ratchetref09_Form [a0] =
 trunc (M.bind (C k_ratchetref09_find [(strip (strip a0))]) fun t8_0 =>
 M.bind (ex 0 (strip t8_0)) fun t9_1 =>
 M.bind (ex 1 (tupDrop 0 (strip t8_0))) fun t10_2 =>
 M.bind (ex 2 (tupDrop 1 (tupDrop 0 (strip t8_0)))) fun t11_3 =>
 M.bind (al [(.int .i64 0), (.str ⟨#[]⟩), (.str ⟨#[]⟩), (.str ⟨#[]⟩)]) fun t3_4 =>
 M.bind (st 4 true t3_4 t9_1) fun _ =>
 M.bind (fa 3 t3_4) fun t12_6 =>
 M.bind (ld none true t12_6) fun t13_7 =>
 resT t13_7 (M.pure t13_7)) := by
 rw [C, callW_eq _ _ rfl]; kernel_rfl
theorem ratchetlaw09_awake_eq : C k_ratchetlaw09_awake [] =
 trunc (M.bind (C k_instr_Name [(.int .i64 106)]) fun t1_0 =>
 M.bind (bi .eql .none t1_0 (.str ⟨#[105, 51, 50, 46, 97, 100, 100]⟩)) fun t2_1 =>
 resT t2_1 (M.pure t2_1)) := by
 rw [C, callW_eq _ _ rfl]; kernel_rfl
noncomputable def p_instr_Write_1111 (v1 v2 v3 v4 v5 : PV) : M PV := atP P X k_instr_Write [1, 1, 1, 1] (mkEnv 176 0 [(1, v1), (2, v2), (3, v3), (4, v4), (5, v5)])
noncomputable def p_instr_Write_11110101111111111111 (v1 v2 v3 v4 v5 v46 v106 : PV) : M PV := atP P X k_instr_Write [1, 1, 1, 1, 0, 1, 0, 1, 1, 1, 1, 1, 1, 1, 1, 1, 1, 1, 1, 1] (mkEnv 176 0 [(1, v1), (2, v2), (3, v3), (4, v4), (5, v5), (46, v46), (106, v106)])
noncomputable def p_instr_Write_11111 (v2 v3 v5 : PV) : M PV := atP P X k_instr_Write [1, 1, 1, 1, 1] (mkEnv 176 0 [(2, v2), (3, v3), (5, v5)])
theorem p_instr_Write_1111_eq (v1 v2 v3 v4 v5 : PV) : p_instr_Write_1111 v1 v2 v3 v4 v5 =
 M.bind (fa 2 v4) fun t45_0 =>
 M.bind (ld none false t45_0) fun t46_1 =>
 M.bind (bi .eql .none t46_1 (.int .i64 0)) fun t54_2 =>
 condM t54_2
 (M.bind (C k_instr_pen_must [(strip (strip v5)), (.bool false)]) fun t56_3 =>
 p_instr_Write_11111 v2 v3 v5)
 (M.bind (bi .eql .none t46_1 (.int .i64 2)) fun t58_4 =>
 condM t58_4
 (M.bind (fa 7 v1) fun t60_5 =>
 M.bind (ld (some 4) false t60_5) fun t61_6 =>
 M.bind (C k_entry_PutBlockType [(strip t61_6)]) fun t62_7 =>
 M.bind (ex 0 t62_7) fun t63_8 =>
 M.bind (ex 1 (tupDrop 0 t62_7)) fun t64_9 =>
 M.bind (C k_instr_pen_put [(strip (strip v5)), (strip t63_8), (strip t64_9)]) fun t65_10 =>
 p_instr_Write_11111 v2 v3 v5)
 (M.bind (bi .eql .none t46_1 (.int .i64 3)) fun t67_11 =>
 condM t67_11
 (M.bind (ld (some 17) false v1) fun t69_12 =>
 M.bind (C k_instr_pen_try [(strip (strip v5)), (strip t69_12)]) fun t70_13 =>
 p_instr_Write_11111 v2 v3 v5)
 (M.bind (bi .eql .none t46_1 (.int .i64 4)) fun t72_14 =>
 condM t72_14
 (M.bind (fa 1 v1) fun t74_15 =>
 M.bind (ld none false t74_15) fun t75_16 =>
 M.bind (cv (.int .u64) true t75_16) fun t76_17 =>
 M.bind (C k_instr_pen_u [(strip (strip v5)), (strip t76_17)]) fun t77_18 =>
 p_instr_Write_11111 v2 v3 v5)
 (M.bind (bi .eql .none t46_1 (.int .i64 5)) fun t79_19 =>
 condM t79_19
 (M.bind (fa 1 v1) fun t81_20 =>
 M.bind (ld none false t81_20) fun t82_21 =>
 M.bind (cv (.int .u64) true t82_21) fun t83_22 =>
 M.bind (C k_instr_pen_u [(strip (strip v5)), (strip t83_22)]) fun t84_23 =>
 M.bind (fa 2 v1) fun t86_24 =>
 M.bind (ld none false t86_24) fun t87_25 =>
 M.bind (cv (.int .u64) true t87_25) fun t88_26 =>
 M.bind (C k_instr_pen_u [(strip (strip v5)), (strip t88_26)]) fun t89_27 =>
 p_instr_Write_11111 v2 v3 v5)
 (M.bind (bi .eql .none t46_1 (.int .i64 16)) fun t91_28 =>
 condM t91_28
 (M.bind (fa 3 v1) fun t93_29 =>
 M.bind (ld none false t93_29) fun t94_30 =>
 M.bind (bi .lss .none t94_30 (.int .u64 4294967296)) fun t95_31 =>
 M.bind (C k_instr_pen_must [(strip (strip v5)), (strip t95_31)]) fun t96_32 =>
 M.bind (fa 1 v1) fun t98_33 =>
 M.bind (ld none false t98_33) fun t99_34 =>
 M.bind (cv (.int .u64) true t99_34) fun t100_35 =>
 M.bind (C k_instr_pen_u [(strip (strip v5)), (strip t100_35)]) fun t101_36 =>
 M.bind (fa 3 v1) fun t103_37 =>
 M.bind (ld none false t103_37) fun t104_38 =>
 M.bind (C k_instr_pen_u [(strip (strip v5)), (strip t104_38)]) fun t105_39 =>
 p_instr_Write_11111 v2 v3 v5)
 (M.bind (bi .eql .none t46_1 (.int .i64 6)) fun t107_40 =>
 condM t107_40
 (p_instr_Write_11110101111111111111 v1 v2 v3 v4 v5 t46_1 t107_40)
 (M.bind (bi .eql .none t46_1 (.int .i64 7)) fun t108_41 =>
 p_instr_Write_11110101111111111111 v1 v2 v3 v4 v5 t46_1 t108_41))))))) :=
 (atP_step P X _ _ _).trans (by kernel_rfl)
theorem p_instr_Write_11110101111111111111_eq (v1 v2 v3 v4 v5 v46 v106 : PV) : p_instr_Write_11110101111111111111 v1 v2 v3 v4 v5 v46 v106 =
 condM v106
 (M.bind (ld (some 17) false v1) fun t110_0 =>
 M.bind (fa 2 v4) fun t111_1 =>
 M.bind (ld none false t111_1) fun t112_2 =>
 M.bind (C k_instr_pen_lists [(strip (strip v5)), (strip t110_0), (strip t112_2)]) fun t113_3 =>
 p_instr_Write_11111 v2 v3 v5)
 (M.bind (bi .eql .none v46 (.int .i64 8)) fun t115_4 =>
 condM t115_4
 (M.bind (fa 4 v1) fun t117_5 =>
 M.bind (ld (some 3) false t117_5) fun t118_6 =>
 M.bind (C k_instr_pen_mem [(strip (strip v5)), (strip t118_6)]) fun t119_7 =>
 p_instr_Write_11111 v2 v3 v5)
 (M.bind (bi .eql .none v46 (.int .i64 13)) fun t121_8 =>
 condM t121_8
 (M.bind (fa 15 v1) fun t123_9 =>
 M.bind (ld none false t123_9) fun t124_10 =>
 M.bind (C k_instr_pen_refs [(strip (strip v5)), (strip t124_10), (.int .i64 1)]) fun t125_11 =>
 M.bind (fa 15 v1) fun t127_12 =>
 M.bind (ld none false t127_12) fun t128_13 =>
 M.bind (lnL t128_13) fun t129_14 =>
 M.bind (bi .eql .none t129_14 (.int .i64 1)) fun t130_15 =>
 M.bind (gd (strip t130_15) true (fa 15 v1)) fun t132_16 =>
 M.bind (gd (strip t130_15) true (ld none false t132_16)) fun t133_17 =>
 M.bind (gd (strip t130_15) true (iaS 3 t133_17 (.int .i64 0))) fun t134_18 =>
 M.bind (gd (strip t130_15) true (fa 1 t134_18)) fun t135_19 =>
 M.bind (gd (strip t130_15) true (ld none false t135_19)) fun t136_20 =>
 M.bind (pick (strip t130_15) t136_20 (.bool false)) fun t137_21 =>
 M.bind (C k_instr_pen_must [(strip (strip v5)), (strip t137_21)]) fun t138_22 =>
 p_instr_Write_11111 v2 v3 v5)
 (M.bind (bi .eql .none v46 (.int .i64 14)) fun t140_23 =>
 condM t140_23
 (M.bind (fa 15 v1) fun t142_24 =>
 M.bind (ld none false t142_24) fun t143_25 =>
 M.bind (C k_instr_pen_refs [(strip (strip v5)), (strip t143_25), (.int .i64 1)]) fun t144_26 =>
 M.bind (noPan (M.pure (strip v5))) fun t145_45 =>
 M.bind (noPan (fa 15 v1)) fun t146_46 =>
 M.bind (noPan (ld none false t146_46)) fun t147_47 =>
 M.bind (noPan (lnL t147_47)) fun t148_48 =>
 M.bind (noPan (bi .eql .none t148_48 (.int .i64 1))) fun t149_49 =>
 M.bind (noPan (M.pure (strip t149_49))) fun t150_50 =>
 M.bind (noPan (gd t150_50 true (fa 15 v1))) fun t151_51 =>
 M.bind (noPan (gd t150_50 true (fa 0 v1))) fun t156_52 =>
 M.bind (noPan (gd t150_50 true (ld none false t151_51))) fun t152_53 =>
 M.bind (noPan (gd t150_50 true (iaS 3 t152_53 (.int .i64 0)))) fun t153_54 =>
 M.bind (noPan (gd t150_50 true (fa 1 t153_54))) fun t154_55 =>
 M.bind (noPan (gd t150_50 true (ld none false t154_55))) fun t155_56 =>
 M.bind (noPan (gd t150_50 true (ld none false t156_52))) fun t157_57 =>
 M.bind (noPan (gd t150_50 true (bi .and .none t157_57 (.int .i64 1)))) fun t158_58 =>
 M.bind (noPan (gd t150_50 true (bi .eql .none t158_58 (.int .i64 1)))) fun t159_59 =>
 M.bind (noPan (gd t150_50 true (bi .eql .bool t155_56 t159_59))) fun t160_60 =>
 M.bind (noPan (pick t150_50 t160_60 (.bool false))) fun t161_61 =>
 M.bind (noPan (C k_instr_pen_must [(strip t145_45), (strip t161_61)])) fun t162_62 =>
 p_instr_Write_11111 v2 v3 v5)
 (M.bind (bi .eql .none v46 (.int .i64 15)) fun t164_63 =>
 condM t164_63
 (M.bind (ld (some 17) false v1) fun t166_64 =>
 M.bind (C k_instr_pen_brCast [(strip (strip v5)), (strip t166_64)]) fun t167_65 =>
 p_instr_Write_11111 v2 v3 v5)
 (M.bind (fa 2 v4) fun t48_66 =>
 M.bind (ld none false t48_66) fun t49_67 =>
 M.bind (fa 3 v1) fun t50_68 =>
 M.bind (ld none false t50_68) fun t51_69 =>
 M.bind (C k_instr_pen_constant [(strip (strip v5)), (strip t49_67), (strip t51_69)]) fun t52_70 =>
 p_instr_Write_11111 v2 v3 v5))))) :=
 (atP_step P X _ _ _).trans (by kernel_rfl)
theorem p_instr_Write_11111_eq (v2 v3 v5 : PV) : p_instr_Write_11111 v2 v3 v5 =
 M.bind (nc P (strip v5)) fun t169_0 =>
 M.bind (fa 1 t169_0) fun t170_1 =>
 M.bind (ld none false t170_1) fun t171_2 =>
 condM t171_2
 (M.pure (.tup [(.slice false true 0 []), (.int .i64 1)]))
 (M.bind (nc P (strip v5)) fun t173_3 =>
 M.bind (fa 0 t173_3) fun t174_4 =>
 M.bind (ld none true t174_4) fun t175_5 =>
 resT t175_5 (M.pure (.tup [t175_5, (.int .i64 0)]))) :=
 (atP_step P X _ _ _).trans (by kernel_rfl)
theorem instr_Write_eq (a0 : PV) : C k_instr_Write [a0] =
 trunc (M.bind (bx 17 a0) fun t1_0 =>
 M.bind (fa 0 t1_0) fun t6_1 =>
 M.bind (ld none false t6_1) fun t7_2 =>
 M.bind (C k_instr_find [(strip t7_2)]) fun t8_3 =>
 M.bind (al [(.int .i64 0), (.str ⟨#[]⟩), (.int .i64 0)]) fun t4_4 =>
 M.bind (st 3 true t4_4 t8_3) fun _ =>
 M.bind (bd [(.slice false true 0 []), (.bool false)] []) fun t9_6 =>
 M.bind (bx 2 t9_6) fun t10_7 =>
 M.bind (fa 0 t1_0) fun t11_8 =>
 M.bind (ld none false t11_8) fun t12_9 =>
 M.bind (bi .gtr .none t12_9 (.int .i64 255)) fun t13_10 =>
 condM t13_10
 (chk
 (M.bind (noPan (M.pure (strip t10_7))) fun t14_25 =>
 M.bind (noPan (M.pure (strip t10_7))) fun t15_26 =>
 M.bind (noPan (nc P t15_26)) fun t16_27 =>
 M.bind (noPan (fa 0 t16_27)) fun t17_28 =>
 M.bind (noPan (fa 0 t1_0)) fun t19_29 =>
 M.bind (noPan (ld none false t19_29)) fun t20_30 =>
 M.bind (noPan (bi .shr .none t20_30 (.int .u64 8))) fun t21_31 =>
 M.bind (noPan (cv (.int .u8) true t21_31)) fun t22_32 =>
 M.bind (noPan (bs true none [t22_32])) fun t23_33 =>
 M.bind (noPan (ld none true t17_28)) fun t18_34 =>
 M.bind (noPan (ap true 1 1 t18_34 t23_33)) fun t24_35 =>
 M.bind (noPan (nc P t14_25)) fun t25_36 =>
 M.bind (noPan (fa 0 t25_36)) fun t26_37 =>
 M.bind (noPan (st 1 true t26_37 t24_35)) fun _ =>
 M.pure [a0, t1_0, (PV.slice false true 0 []), (PV.int .i64 0), t4_4, t10_7, t6_1, t7_2, (strip t8_3), t9_6, (strip t10_7), t11_8, t12_9, t13_10, t14_25, t15_26, t16_27, t17_28, (strip t18_34), t19_29, t20_30, t21_31, t22_32, t23_33, (strip t24_35), t25_36, t26_37, PV.undef, PV.undef, PV.undef, PV.undef, PV.undef, PV.undef, PV.undef, PV.undef, PV.undef, PV.undef, PV.undef, PV.undef, PV.undef, PV.undef, PV.undef, PV.undef, PV.undef, PV.undef, PV.undef, PV.undef, PV.undef, PV.undef, PV.undef, PV.undef, PV.undef, PV.undef, PV.undef, PV.undef, PV.undef, PV.undef, PV.undef, PV.undef, PV.undef, PV.undef, PV.undef, PV.undef, PV.undef, PV.undef, PV.undef, PV.undef, PV.undef, PV.undef, PV.undef, PV.undef, PV.undef, PV.undef, PV.undef, PV.undef, PV.undef, PV.undef, PV.undef, PV.undef, PV.undef, PV.undef, PV.undef, PV.undef, PV.undef, PV.undef, PV.undef, PV.undef, PV.undef, PV.undef, PV.undef, PV.undef, PV.undef, PV.undef, PV.undef, PV.undef, PV.undef, PV.undef, PV.undef, PV.undef, PV.undef, PV.undef, PV.undef, PV.undef, PV.undef, PV.undef, PV.undef, PV.undef, PV.undef, PV.undef, PV.undef, PV.undef, PV.undef, PV.undef, PV.undef, PV.undef, PV.undef, PV.undef, PV.undef, PV.undef, PV.undef, PV.undef, PV.undef, PV.undef, PV.undef, PV.undef, PV.undef, PV.undef, PV.undef, PV.undef, PV.undef, PV.undef, PV.undef, PV.undef, PV.undef, PV.undef, PV.undef, PV.undef, PV.undef, PV.undef, PV.undef, PV.undef, PV.undef, PV.undef, PV.undef, PV.undef, PV.undef, PV.undef, PV.undef, PV.undef, PV.undef, PV.undef, PV.undef, PV.undef, PV.undef, PV.undef, PV.undef, PV.undef, PV.undef, PV.undef, PV.undef, PV.undef, PV.undef, PV.undef, PV.undef, PV.undef, PV.undef, PV.undef, PV.undef, PV.undef, PV.undef, PV.undef, PV.undef, PV.undef, PV.undef, PV.undef, PV.undef])
 (M.bind (noPan (M.pure (strip t10_7))) fun t14_11 =>
 M.bind (noPan (M.pure (strip t10_7))) fun t15_12 =>
 M.bind (noPan (nc P t15_12)) fun t16_13 =>
 M.bind (noPan (fa 0 t16_13)) fun t17_14 =>
 M.bind (noPan (fa 0 t1_0)) fun t19_15 =>
 M.bind (noPan (ld none true t17_14)) fun t18_16 =>
 M.bind (noPan (ld none false t19_15)) fun t20_17 =>
 M.bind (noPan (bi .shr .none t20_17 (.int .u64 8))) fun t21_18 =>
 M.bind (noPan (cv (.int .u8) true t21_18)) fun t22_19 =>
 M.bind (noPan (bs true none [t22_19])) fun t23_20 =>
 M.bind (noPan (ap true 1 1 t18_16 t23_20)) fun t24_21 =>
 M.bind (noPan (nc P t14_11)) fun t25_22 =>
 M.bind (noPan (fa 0 t25_22)) fun t26_23 =>
 M.bind (noPan (st 1 true t26_23 t24_21)) fun _ =>
 M.pure [a0, t1_0, (PV.slice false true 0 []), (PV.int .i64 0), t4_4, t10_7, t6_1, t7_2, (strip t8_3), t9_6, (strip t10_7), t11_8, t12_9, t13_10, t14_11, t15_12, t16_13, t17_14, (strip t18_16), t19_15, t20_17, t21_18, t22_19, t23_20, (strip t24_21), t25_22, t26_23, PV.undef, PV.undef, PV.undef, PV.undef, PV.undef, PV.undef, PV.undef, PV.undef, PV.undef, PV.undef, PV.undef, PV.undef, PV.undef, PV.undef, PV.undef, PV.undef, PV.undef, PV.undef, PV.undef, PV.undef, PV.undef, PV.undef, PV.undef, PV.undef, PV.undef, PV.undef, PV.undef, PV.undef, PV.undef, PV.undef, PV.undef, PV.undef, PV.undef, PV.undef, PV.undef, PV.undef, PV.undef, PV.undef, PV.undef, PV.undef, PV.undef, PV.undef, PV.undef, PV.undef, PV.undef, PV.undef, PV.undef, PV.undef, PV.undef, PV.undef, PV.undef, PV.undef, PV.undef, PV.undef, PV.undef, PV.undef, PV.undef, PV.undef, PV.undef, PV.undef, PV.undef, PV.undef, PV.undef, PV.undef, PV.undef, PV.undef, PV.undef, PV.undef, PV.undef, PV.undef, PV.undef, PV.undef, PV.undef, PV.undef, PV.undef, PV.undef, PV.undef, PV.undef, PV.undef, PV.undef, PV.undef, PV.undef, PV.undef, PV.undef, PV.undef, PV.undef, PV.undef, PV.undef, PV.undef, PV.undef, PV.undef, PV.undef, PV.undef, PV.undef, PV.undef, PV.undef, PV.undef, PV.undef, PV.undef, PV.undef, PV.undef, PV.undef, PV.undef, PV.undef, PV.undef, PV.undef, PV.undef, PV.undef, PV.undef, PV.undef, PV.undef, PV.undef, PV.undef, PV.undef, PV.undef, PV.undef, PV.undef, PV.undef, PV.undef, PV.undef, PV.undef, PV.undef, PV.undef, PV.undef, PV.undef, PV.undef, PV.undef, PV.undef, PV.undef, PV.undef, PV.undef, PV.undef, PV.undef, PV.undef, PV.undef, PV.undef, PV.undef, PV.undef, PV.undef, PV.undef, PV.undef, PV.undef, PV.undef, PV.undef, PV.undef, PV.undef, PV.undef, PV.undef, PV.undef]) <|
 M.bind (noPan (M.pure (strip t10_7))) fun t14_39 =>
 M.bind (noPan (M.pure (strip t10_7))) fun t15_40 =>
 M.bind (noPan (nc P t15_40)) fun t16_41 =>
 M.bind (noPan (fa 0 t16_41)) fun t17_42 =>
 M.bind (noPan (fa 0 t1_0)) fun t19_43 =>
 M.bind (noPan (ld none true t17_42)) fun t18_44 =>
 M.bind (noPan (ld none false t19_43)) fun t20_45 =>
 M.bind (noPan (bi .shr .none t20_45 (.int .u64 8))) fun t21_46 =>
 M.bind (noPan (cv (.int .u8) true t21_46)) fun t22_47 =>
 M.bind (noPan (bs true none [t22_47])) fun t23_48 =>
 M.bind (noPan (ap true 1 1 t18_44 t23_48)) fun t24_49 =>
 M.bind (noPan (nc P t14_39)) fun t25_50 =>
 M.bind (noPan (fa 0 t25_50)) fun t26_51 =>
 M.bind (noPan (st 1 true t26_51 t24_49)) fun _ =>
 M.bind (fa 0 t1_0) fun t28_53 =>
 M.bind (ld none false t28_53) fun t29_54 =>
 M.bind (bi .and .none t29_54 (.int .i64 255)) fun t30_55 =>
 M.bind (cv (.int .u64) true t30_55) fun t31_56 =>
 M.bind (C k_instr_pen_u [(strip (strip t10_7)), (strip t31_56)]) fun t32_57 =>
 p_instr_Write_1111 t1_0 (.slice false true 0 []) (.int .i64 0) t4_4 t10_7)
 (chk
 (M.bind (noPan (M.pure (strip t10_7))) fun t33_71 =>
 M.bind (noPan (M.pure (strip t10_7))) fun t34_72 =>
 M.bind (noPan (nc P t34_72)) fun t35_73 =>
 M.bind (noPan (fa 0 t35_73)) fun t36_74 =>
 M.bind (noPan (fa 0 t1_0)) fun t38_75 =>
 M.bind (noPan (ld none false t38_75)) fun t39_76 =>
 M.bind (noPan (cv (.int .u8) true t39_76)) fun t40_77 =>
 M.bind (noPan (bs true none [t40_77])) fun t41_78 =>
 M.bind (noPan (ld none true t36_74)) fun t37_79 =>
 M.bind (noPan (ap true 1 1 t37_79 t41_78)) fun t42_80 =>
 M.bind (noPan (nc P t33_71)) fun t43_81 =>
 M.bind (noPan (fa 0 t43_81)) fun t44_82 =>
 M.bind (noPan (st 1 true t44_82 t42_80)) fun _ =>
 M.pure [a0, t1_0, (PV.slice false true 0 []), (PV.int .i64 0), t4_4, t10_7, t6_1, t7_2, (strip t8_3), t9_6, (strip t10_7), t11_8, t12_9, t13_10, PV.undef, PV.undef, PV.undef, PV.undef, PV.undef, PV.undef, PV.undef, PV.undef, PV.undef, PV.undef, PV.undef, PV.undef, PV.undef, PV.undef, PV.undef, PV.undef, PV.undef, PV.undef, PV.undef, t33_71, t34_72, t35_73, t36_74, (strip t37_79), t38_75, t39_76, t40_77, t41_78, (strip t42_80), t43_81, t44_82, PV.undef, PV.undef, PV.undef, PV.undef, PV.undef, PV.undef, PV.undef, PV.undef, PV.undef, PV.undef, PV.undef, PV.undef, PV.undef, PV.undef, PV.undef, PV.undef, PV.undef, PV.undef, PV.undef, PV.undef, PV.undef, PV.undef, PV.undef, PV.undef, PV.undef, PV.undef, PV.undef, PV.undef, PV.undef, PV.undef, PV.undef, PV.undef, PV.undef, PV.undef, PV.undef, PV.undef, PV.undef, PV.undef, PV.undef, PV.undef, PV.undef, PV.undef, PV.undef, PV.undef, PV.undef, PV.undef, PV.undef, PV.undef, PV.undef, PV.undef, PV.undef, PV.undef, PV.undef, PV.undef, PV.undef, PV.undef, PV.undef, PV.undef, PV.undef, PV.undef, PV.undef, PV.undef, PV.undef, PV.undef, PV.undef, PV.undef, PV.undef, PV.undef, PV.undef, PV.undef, PV.undef, PV.undef, PV.undef, PV.undef, PV.undef, PV.undef, PV.undef, PV.undef, PV.undef, PV.undef, PV.undef, PV.undef, PV.undef, PV.undef, PV.undef, PV.undef, PV.undef, PV.undef, PV.undef, PV.undef, PV.undef, PV.undef, PV.undef, PV.undef, PV.undef, PV.undef, PV.undef, PV.undef, PV.undef, PV.undef, PV.undef, PV.undef, PV.undef, PV.undef, PV.undef, PV.undef, PV.undef, PV.undef, PV.undef, PV.undef, PV.undef, PV.undef, PV.undef, PV.undef, PV.undef, PV.undef, PV.undef, PV.undef, PV.undef, PV.undef, PV.undef, PV.undef, PV.undef, PV.undef, PV.undef, PV.undef, PV.undef, PV.undef, PV.undef, PV.undef, PV.undef])
 (M.bind (noPan (M.pure (strip t10_7))) fun t33_58 =>
 M.bind (noPan (M.pure (strip t10_7))) fun t34_59 =>
 M.bind (noPan (nc P t34_59)) fun t35_60 =>
 M.bind (noPan (fa 0 t35_60)) fun t36_61 =>
 M.bind (noPan (fa 0 t1_0)) fun t38_62 =>
 M.bind (noPan (ld none true t36_61)) fun t37_63 =>
 M.bind (noPan (ld none false t38_62)) fun t39_64 =>
 M.bind (noPan (cv (.int .u8) true t39_64)) fun t40_65 =>
 M.bind (noPan (bs true none [t40_65])) fun t41_66 =>
 M.bind (noPan (ap true 1 1 t37_63 t41_66)) fun t42_67 =>
 M.bind (noPan (nc P t33_58)) fun t43_68 =>
 M.bind (noPan (fa 0 t43_68)) fun t44_69 =>
 M.bind (noPan (st 1 true t44_69 t42_67)) fun _ =>
 M.pure [a0, t1_0, (PV.slice false true 0 []), (PV.int .i64 0), t4_4, t10_7, t6_1, t7_2, (strip t8_3), t9_6, (strip t10_7), t11_8, t12_9, t13_10, PV.undef, PV.undef, PV.undef, PV.undef, PV.undef, PV.undef, PV.undef, PV.undef, PV.undef, PV.undef, PV.undef, PV.undef, PV.undef, PV.undef, PV.undef, PV.undef, PV.undef, PV.undef, PV.undef, t33_58, t34_59, t35_60, t36_61, (strip t37_63), t38_62, t39_64, t40_65, t41_66, (strip t42_67), t43_68, t44_69, PV.undef, PV.undef, PV.undef, PV.undef, PV.undef, PV.undef, PV.undef, PV.undef, PV.undef, PV.undef, PV.undef, PV.undef, PV.undef, PV.undef, PV.undef, PV.undef, PV.undef, PV.undef, PV.undef, PV.undef, PV.undef, PV.undef, PV.undef, PV.undef, PV.undef, PV.undef, PV.undef, PV.undef, PV.undef, PV.undef, PV.undef, PV.undef, PV.undef, PV.undef, PV.undef, PV.undef, PV.undef, PV.undef, PV.undef, PV.undef, PV.undef, PV.undef, PV.undef, PV.undef, PV.undef, PV.undef, PV.undef, PV.undef, PV.undef, PV.undef, PV.undef, PV.undef, PV.undef, PV.undef, PV.undef, PV.undef, PV.undef, PV.undef, PV.undef, PV.undef, PV.undef, PV.undef, PV.undef, PV.undef, PV.undef, PV.undef, PV.undef, PV.undef, PV.undef, PV.undef, PV.undef, PV.undef, PV.undef, PV.undef, PV.undef, PV.undef, PV.undef, PV.undef, PV.undef, PV.undef, PV.undef, PV.undef, PV.undef, PV.undef, PV.undef, PV.undef, PV.undef, PV.undef, PV.undef, PV.undef, PV.undef, PV.undef, PV.undef, PV.undef, PV.undef, PV.undef, PV.undef, PV.undef, PV.undef, PV.undef, PV.undef, PV.undef, PV.undef, PV.undef, PV.undef, PV.undef, PV.undef, PV.undef, PV.undef, PV.undef, PV.undef, PV.undef, PV.undef, PV.undef, PV.undef, PV.undef, PV.undef, PV.undef, PV.undef, PV.undef, PV.undef, PV.undef, PV.undef, PV.undef, PV.undef, PV.undef, PV.undef, PV.undef, PV.undef, PV.undef, PV.undef]) <|
 M.bind (noPan (M.pure (strip t10_7))) fun t33_84 =>
 M.bind (noPan (M.pure (strip t10_7))) fun t34_85 =>
 M.bind (noPan (nc P t34_85)) fun t35_86 =>
 M.bind (noPan (fa 0 t35_86)) fun t36_87 =>
 M.bind (noPan (fa 0 t1_0)) fun t38_88 =>
 M.bind (noPan (ld none true t36_87)) fun t37_89 =>
 M.bind (noPan (ld none false t38_88)) fun t39_90 =>
 M.bind (noPan (cv (.int .u8) true t39_90)) fun t40_91 =>
 M.bind (noPan (bs true none [t40_91])) fun t41_92 =>
 M.bind (noPan (ap true 1 1 t37_89 t41_92)) fun t42_93 =>
 M.bind (noPan (nc P t33_84)) fun t43_94 =>
 M.bind (noPan (fa 0 t43_94)) fun t44_95 =>
 M.bind (noPan (st 1 true t44_95 t42_93)) fun _ =>
 p_instr_Write_1111 t1_0 (.slice false true 0 []) (.int .i64 0) t4_4 t10_7)) := by
 rw [C, callW_eq _ _ rfl]; kernel_rfl
noncomputable def p_ratchetref09_Write_11101011111111111111101110 (v1 v2 v3 v4 v6 : PV) : M PV := atP P X k_ratchetref09_Write [1, 1, 1, 0, 1, 0, 1, 1, 1, 1, 1, 1, 1, 1, 1, 1, 1, 1, 1, 1, 1, 0, 1, 1, 1, 0] (mkEnv 157 0 [(1, v1), (2, v2), (3, v3), (4, v4), (6, v6)])
noncomputable def p_ratchetref09_Write_1110101111111111111011010 (v1 v2 v3 v4 v5 : PV) : M PV := atP P X k_ratchetref09_Write [1, 1, 1, 0, 1, 0, 1, 1, 1, 1, 1, 1, 1, 1, 1, 1, 1, 1, 1, 0, 1, 1, 0, 1, 0] (mkEnv 157 0 [(1, v1), (2, v2), (3, v3), (4, v4), (5, v5)])
noncomputable def p_ratchetref09_Write_1111 (v1 v2 v3 v4 : PV) : M PV := atP P X k_ratchetref09_Write [1, 1, 1, 1] (mkEnv 157 0 [(1, v1), (2, v2), (3, v3), (4, v4)])
theorem p_ratchetref09_Write_11101011111111111111101110_eq (v1 v2 v3 v4 v6 : PV) : p_ratchetref09_Write_11101011111111111111101110 v1 v2 v3 v4 v6 =
 M.bind (fa 15 v1) fun t124_0 =>
 M.bind (ld none false t124_0) fun t125_1 =>
 M.bind (lnL t125_1) fun t126_2 =>
 M.bind (bi .lss .none (strip v6) t126_2) fun t127_3 =>
 condM t127_3
 (M.bind (fa 15 v1) fun t131_4 =>
 M.bind (ld none false t131_4) fun t132_5 =>
 M.bind (iaS 3 t132_5 (strip v6)) fun t134_6 =>
 M.bind (ld (some 3) false t134_6) fun t135_7 =>
 M.bind (C k_ratchetref09_writing_val [(strip (strip v4)), (strip t135_7)]) fun t136_8 =>
 M.bind (bi .add .none (strip v6) (.int .i64 1)) fun t129_9 =>
 p_ratchetref09_Write_11101011111111111111101110 v1 v2 v3 v4 t129_9)
 (p_ratchetref09_Write_1111 v1 v2 v3 v4) :=
 (atP_step P X _ _ _).trans (by kernel_rfl)
theorem p_ratchetref09_Write_1110101111111111111011010_eq (v1 v2 v3 v4 v5 : PV) : p_ratchetref09_Write_1110101111111111111011010 v1 v2 v3 v4 v5 =
 M.bind (fa 14 v1) fun t89_0 =>
 M.bind (ld none false t89_0) fun t90_1 =>
 M.bind (lnL t90_1) fun t91_2 =>
 M.bind (bi .lss .none (strip v5) t91_2) fun t92_3 =>
 condM t92_3
 (M.bind (fa 14 v1) fun t96_4 =>
 M.bind (ld none false t96_4) fun t97_5 =>
 M.bind (iaS 1 t97_5 (strip v5)) fun t99_6 =>
 M.bind (ld none false t99_6) fun t100_7 =>
 M.bind (cv (.int .u64) true t100_7) fun t101_8 =>
 M.bind (C k_ratchetref09_writing_u [(strip (strip v4)), (strip t101_8)]) fun t102_9 =>
 M.bind (bi .add .none (strip v5) (.int .i64 1)) fun t94_10 =>
 p_ratchetref09_Write_1110101111111111111011010 v1 v2 v3 v4 t94_10)
 (M.bind (fa 1 v1) fun t104_11 =>
 M.bind (ld none false t104_11) fun t105_12 =>
 M.bind (cv (.int .u64) true t105_12) fun t106_13 =>
 M.bind (C k_ratchetref09_writing_u [(strip (strip v4)), (strip t106_13)]) fun t107_14 =>
 p_ratchetref09_Write_1111 v1 v2 v3 v4) :=
 (atP_step P X _ _ _).trans (by kernel_rfl)
theorem p_ratchetref09_Write_1111_eq (v1 v2 v3 v4 : PV) : p_ratchetref09_Write_1111 v1 v2 v3 v4 =
 M.bind (ld (some 17) false v1) fun t144_0 =>
 M.bind (C k_ratchetref09_writing_casts [(strip (strip v4)), (strip t144_0)]) fun t145_1 =>
 M.bind (ld (some 17) false v1) fun t147_2 =>
 M.bind (C k_ratchetref09_writing_consts [(strip (strip v4)), (strip t147_2)]) fun t148_3 =>
 M.bind (nc P (strip v4)) fun t150_4 =>
 M.bind (fa 1 t150_4) fun t151_5 =>
 M.bind (ld none false t151_5) fun t152_6 =>
 condM t152_6
 (M.pure (.tup [(.slice false true 0 []), (.int .i64 1)]))
 (M.bind (nc P (strip v4)) fun t154_7 =>
 M.bind (fa 0 t154_7) fun t155_8 =>
 M.bind (ld none true t155_8) fun t156_9 =>
 resT t156_9 (M.pure (.tup [t156_9, (.int .i64 0)]))) :=
 (atP_step P X _ _ _).trans (by kernel_rfl)
theorem ratchetref09_Write_eq (a0 : PV) : C k_ratchetref09_Write [a0] =
 trunc (M.bind (bx 17 a0) fun t1_0 =>
 M.bind (bd [(.slice false true 0 []), (.bool false)] []) fun t7_1 =>
 M.bind (bx 2 t7_1) fun t8_2 =>
 M.bind (fa 0 t1_0) fun t10_3 =>
 M.bind (ld none false t10_3) fun t11_4 =>
 M.bind (C k_ratchetref09_writing_opcode [(strip (strip t8_2)), (strip t11_4)]) fun t12_5 =>
 M.bind (fa 0 t1_0) fun t13_6 =>
 M.bind (ld none false t13_6) fun t14_7 =>
 M.bind (C k_ratchetref09_Form [(strip t14_7)]) fun t15_8 =>
 M.bind (bi .eql .none t15_8 (.str ⟨#[]⟩)) fun t17_9 =>
 condM t17_9
 (M.bind (nc P (strip t8_2)) fun t19_10 =>
 M.bind (fa 1 t19_10) fun t20_11 =>
 M.bind (st 1 false t20_11 (.bool true)) fun _ =>
 p_ratchetref09_Write_1111 t1_0 (.slice false true 0 []) (.int .i64 0) t8_2)
 (M.bind (bi .eql .none t15_8 (.str ⟨#[98, 108, 111, 99, 107]⟩)) fun t22_13 =>
 condM t22_13
 (M.bind (fa 7 t1_0) fun t24_14 =>
 M.bind (ld (some 4) false t24_14) fun t25_15 =>
 M.bind (C k_ratchetref09_writing_block [(strip (strip t8_2)), (strip t25_15)]) fun t26_16 =>
 p_ratchetref09_Write_1111 t1_0 (.slice false true 0 []) (.int .i64 0) t8_2)
 (M.bind (bi .eql .none t15_8 (.str ⟨#[116, 114, 121]⟩)) fun t28_17 =>
 condM t28_17
 (M.bind (fa 7 t1_0) fun t30_18 =>
 M.bind (ld (some 4) false t30_18) fun t31_19 =>
 M.bind (C k_ratchetref09_writing_block [(strip (strip t8_2)), (strip t31_19)]) fun t32_20 =>
 M.bind (fa 16 t1_0) fun t34_21 =>
 M.bind (ld none false t34_21) fun t35_22 =>
 M.bind (C k_ratchetref09_writing_clauses [(strip (strip t8_2)), (strip t35_22)]) fun t36_23 =>
 p_ratchetref09_Write_1111 t1_0 (.slice false true 0 []) (.int .i64 0) t8_2)
 (M.bind (bi .eql .none t15_8 (.str ⟨#[120]⟩)) fun t38_24 =>
 condM t38_24
 (M.bind (fa 1 t1_0) fun t40_25 =>
 M.bind (ld none false t40_25) fun t41_26 =>
 M.bind (cv (.int .u64) true t41_26) fun t42_27 =>
 M.bind (C k_ratchetref09_writing_u [(strip (strip t8_2)), (strip t42_27)]) fun t43_28 =>
 p_ratchetref09_Write_1111 t1_0 (.slice false true 0 []) (.int .i64 0) t8_2)
 (M.bind (bi .eql .none t15_8 (.str ⟨#[120, 121]⟩)) fun t45_29 =>
 condM t45_29
 (M.bind (fa 1 t1_0) fun t47_30 =>
 M.bind (ld none false t47_30) fun t48_31 =>
 M.bind (cv (.int .u64) true t48_31) fun t49_32 =>
 M.bind (C k_ratchetref09_writing_u [(strip (strip t8_2)), (strip t49_32)]) fun t50_33 =>
 M.bind (fa 2 t1_0) fun t52_34 =>
 M.bind (ld none false t52_34) fun t53_35 =>
 M.bind (cv (.int .u64) true t53_35) fun t54_36 =>
 M.bind (C k_ratchetref09_writing_u [(strip (strip t8_2)), (strip t54_36)]) fun t55_37 =>
 p_ratchetref09_Write_1111 t1_0 (.slice false true 0 []) (.int .i64 0) t8_2)
 (M.bind (bi .eql .none t15_8 (.str ⟨#[120, 110]⟩)) fun t57_38 =>
 condM t57_38
 (M.bind (fa 3 t1_0) fun t59_39 =>
 M.bind (ld none false t59_39) fun t60_40 =>
 M.bind (bi .geq .none t60_40 (.int .u64 4294967296)) fun t61_41 =>
 M.bind (nc P (strip t8_2)) fun t62_42 =>
 M.bind (fa 1 t62_42) fun t63_43 =>
 M.bind (st 1 true t63_43 t61_41) fun _ =>
 M.bind (fa 1 t1_0) fun t65_45 =>
 M.bind (ld none false t65_45) fun t66_46 =>
 M.bind (cv (.int .u64) true t66_46) fun t67_47 =>
 M.bind (C k_ratchetref09_writing_u [(strip (strip t8_2)), (strip t67_47)]) fun t68_48 =>
 M.bind (fa 3 t1_0) fun t70_49 =>
 M.bind (ld none false t70_49) fun t71_50 =>
 M.bind (C k_ratchetref09_writing_u [(strip (strip t8_2)), (strip t71_50)]) fun t72_51 =>
 p_ratchetref09_Write_1111 t1_0 (.slice false true 0 []) (.int .i64 0) t8_2)
 (M.bind (bi .eql .none t15_8 (.str ⟨#[116, 97, 98, 108, 101]⟩)) fun t74_52 =>
 condM t74_52
 (M.bind (fa 14 t1_0) fun t76_53 =>
 M.bind (ld none false t76_53) fun t77_54 =>
 M.bind (lnL t77_54) fun t78_55 =>
 M.bind (bi .gtr .none t78_55 (.int .i64 65536)) fun t79_56 =>
 M.bind (nc P (strip t8_2)) fun t80_57 =>
 M.bind (fa 1 t80_57) fun t81_58 =>
 M.bind (st 1 true t81_58 t79_56) fun _ =>
 M.bind (fa 14 t1_0) fun t83_60 =>
 M.bind (ld none false t83_60) fun t84_61 =>
 M.bind (lnL t84_61) fun t85_62 =>
 M.bind (cv (.int .u64) true t85_62) fun t86_63 =>
 M.bind (C k_ratchetref09_writing_u [(strip (strip t8_2)), (strip t86_63)]) fun t87_64 =>
 p_ratchetref09_Write_1110101111111111111011010 t1_0 (.slice false true 0 []) (.int .i64 0) t8_2 (.int .i64 0))
 (M.bind (bi .eql .none t15_8 (.str ⟨#[115, 101, 108, 101, 99, 116]⟩)) fun t109_65 =>
 condM t109_65
 (M.bind (fa 15 t1_0) fun t111_66 =>
 M.bind (ld none false t111_66) fun t112_67 =>
 M.bind (lnL t112_67) fun t113_68 =>
 M.bind (bi .gtr .none t113_68 (.int .i64 1000)) fun t114_69 =>
 M.bind (nc P (strip t8_2)) fun t115_70 =>
 M.bind (fa 1 t115_70) fun t116_71 =>
 M.bind (st 1 true t116_71 t114_69) fun _ =>
 M.bind (fa 15 t1_0) fun t118_73 =>
 M.bind (ld none false t118_73) fun t119_74 =>
 M.bind (lnL t119_74) fun t120_75 =>
 M.bind (cv (.int .u64) true t120_75) fun t121_76 =>
 M.bind (C k_ratchetref09_writing_u [(strip (strip t8_2)), (strip t121_76)]) fun t122_77 =>
 p_ratchetref09_Write_11101011111111111111101110 t1_0 (.slice false true 0 []) (.int .i64 0) t8_2 (.int .i64 0))
 (M.bind (bi .eql .none t15_8 (.str ⟨#[109, 101, 109]⟩)) fun t138_78 =>
 condM t138_78
 (M.bind (fa 4 t1_0) fun t140_79 =>
 M.bind (ld (some 3) false t140_79) fun t141_80 =>
 M.bind (C k_ratchetref09_writing_mem [(strip (strip t8_2)), (strip t141_80)]) fun t142_81 =>
 p_ratchetref09_Write_1111 t1_0 (.slice false true 0 []) (.int .i64 0) t8_2)
 (p_ratchetref09_Write_1111 t1_0 (.slice false true 0 []) (.int .i64 0) t8_2)))))))))) := by
 rw [C, callW_eq _ _ rfl]; kernel_rfl
theorem instr_find_eq (a0 : PV) : C k_instr_find [a0] =
 trunc (M.bind (al [(.int .i64 0), (.str ⟨#[]⟩), (.int .i64 0)]) fun t2_0 =>
 M.bind (bi .geq .none (strip a0) (.int .i64 0)) fun t4_1 =>
 M.bind (gd (strip t4_1) true (M.pure (strip a0))) fun t6_2 =>
 M.bind (gd (strip t4_1) true (bi .leq .none t6_2 (.int .i64 196))) fun t7_3 =>
 M.bind (pick (strip t4_1) t7_3 (.bool false)) fun t8_4 =>
 condM t8_4
 (M.bind (C k_instr_numbers []) fun t9_5 =>
 M.bind (C k_instr_within [(strip t9_5), (strip (strip a0))]) fun t11_6 =>
 M.bind (st 3 true t2_0 t11_6) fun _ =>
 M.bind (ld (some 3) true t2_0) fun t0_8 => guardM (!isTup t0_8) (M.pure t0_8))
 (M.bind (C k_instr_others []) fun t12_9 =>
 M.bind (C k_instr_within [(strip t12_9), (strip (strip a0))]) fun t14_10 =>
 M.bind (st 3 true t2_0 t14_10) fun _ =>
 M.bind (ld (some 3) true t2_0) fun t0_12 => guardM (!isTup t0_12) (M.pure t0_12))) := by
 rw [C, callW_eq _ _ rfl]; kernel_rfl
noncomputable def p_ratchetref09_find_111 (v0 v2 v3 v4 v5 : PV) : M PV := atP P X k_ratchetref09_find [1, 1, 1] (mkEnv 65 0 [(0, v0), (2, v2), (3, v3), (4, v4), (5, v5)])
noncomputable def p_ratchetref09_find_111010 (v0 v2 v3 v4 v5 v6 : PV) : M PV := atP P X k_ratchetref09_find [1, 1, 1, 0, 1, 0] (mkEnv 65 0 [(0, v0), (2, v2), (3, v3), (4, v4), (5, v5), (6, v6)])
noncomputable def p_ratchetref09_find_111010011 (v0 v2 v3 v4 v5 v6 : PV) : M PV := atP P X k_ratchetref09_find [1, 1, 1, 0, 1, 0, 0, 1, 1] (mkEnv 65 0 [(0, v0), (2, v2), (3, v3), (4, v4), (5, v5), (6, v6)])
theorem p_ratchetref09_find_111_eq (v0 v2 v3 v4 v5 : PV) : p_ratchetref09_find_111 v0 v2 v3 v4 v5 =
 p_ratchetref09_find_111010 v0 v2 v3 v4 v5 (.int .i64 0) :=
 (atP_step P X _ _ _).trans (by kernel_rfl)
theorem p_ratchetref09_find_111010_eq (v0 v2 v3 v4 v5 v6 : PV) : p_ratchetref09_find_111010 v0 v2 v3 v4 v5 v6 =
 M.bind (lnL (strip v5)) fun t15_0 =>
 M.bind (bi .lss .none (strip v6) t15_0) fun t16_1 =>
 condM t16_1
 (M.bind (iaS 4 (strip v5) (strip v6)) fun t22_2 =>
 M.bind (fa 0 t22_2) fun t23_3 =>
 M.bind (ld none false t23_3) fun t24_4 =>
 M.bind (bi .lss .none (strip v0) t24_4) fun t25_5 =>
 M.bind (gd (strip t25_5) false (M.pure (strip v0))) fun t27_6 =>
 M.bind (gd (strip t25_5) false (M.pure (strip v5))) fun t28_7 =>
 M.bind (gd (strip t25_5) false (M.pure (strip v6))) fun t29_8 =>
 M.bind (gd (strip t25_5) false (iaS 4 t28_7 t29_8)) fun t30_9 =>
 M.bind (gd (strip t25_5) false (fa 0 t30_9)) fun t31_10 =>
 M.bind (gd (strip t25_5) false (ld none false t31_10)) fun t32_11 =>
 M.bind (gd (strip t25_5) false (bi .add .none t32_11 (.int .i64 32))) fun t33_12 =>
 M.bind (gd (strip t25_5) false (bi .geq .none t27_6 t33_12)) fun t34_13 =>
 M.bind (pick (strip t25_5) (.bool true) t34_13) fun t35_14 =>
 condM t35_14
 (p_ratchetref09_find_111010011 v0 v2 v3 v4 v5 v6)
 (M.bind (noPan (M.pure (strip v5))) fun t37_33 =>
 M.bind (noPan (M.pure (strip v6))) fun t38_34 =>
 M.bind (noPan (iaS 4 t37_33 t38_34)) fun t39_35 =>
 M.bind (noPan (fa 2 t39_35)) fun t40_36 =>
 M.bind (noPan (M.pure (strip v0))) fun t42_37 =>
 M.bind (noPan (M.pure (strip v5))) fun t43_38 =>
 M.bind (noPan (M.pure (strip v6))) fun t44_39 =>
 M.bind (noPan (iaS 4 t43_38 t44_39)) fun t45_40 =>
 M.bind (noPan (fa 0 t45_40)) fun t46_41 =>
 M.bind (noPan (ld none false t40_36)) fun t41_42 =>
 M.bind (noPan (ld none false t46_41)) fun t47_43 =>
 M.bind (noPan (bi .sub .none t42_37 t47_43)) fun t48_44 =>
 M.bind (noPan (C k_ratchetref09_nth [(strip t41_42), (strip t48_44)])) fun t49_45 =>
 M.bind (noPan (M.pure (strip t49_45))) fun t36_46 =>
 M.bind (noPan (ex 0 t36_46)) fun t50_47 =>
 M.bind (noPan (ex 1 (tupDrop 0 t36_46))) fun t51_48 =>
 M.bind (noPan (M.pure t50_47)) fun t7_49 =>
 M.bind (noPan (M.pure t51_48)) fun t8_50 =>
 condM (strip t8_50)
 (chk
 (M.bind (noPan (M.pure (strip v5))) fun t53_65 =>
 M.bind (noPan (M.pure (strip v6))) fun t54_66 =>
 M.bind (noPan (iaS 4 t53_65 t54_66)) fun t55_67 =>
 M.bind (noPan (M.pure (strip v5))) fun t57_68 =>
 M.bind (noPan (M.pure (strip v6))) fun t58_69 =>
 M.bind (noPan (iaS 4 t57_68 t58_69)) fun t59_70 =>
 M.bind (noPan (fa 1 t59_70)) fun t60_71 =>
 M.bind (noPan (M.pure (strip t7_49))) fun t62_72 =>
 M.bind (noPan (ld (some 4) true t55_67)) fun t56_73 =>
 M.bind (noPan (st 4 true v2 t56_73)) fun _ =>
 M.bind (noPan (ld none false t60_71)) fun t61_75 =>
 M.bind (noPan (bi .add .none t61_75 t62_72)) fun t63_76 =>
 M.bind (noPan (M.pure t63_76)) fun t3_77 =>
 M.bind (noPan (M.pure (.bool true))) fun t4_78 =>
 M.pure [v0, PV.undef, v2, t3_77, t4_78, v5, v6, t7_49, t8_50, PV.undef, PV.undef, PV.undef, PV.undef, (strip v6), (strip v5), t15_0, t16_1, PV.undef, PV.undef, (strip v0), (strip v5), (strip v6), t22_2, t23_3, t24_4, t25_5, (strip t25_5), t27_6, t28_7, t29_8, t30_9, t31_10, t32_11, t33_12, t34_13, t35_14, (tupDrop 1 (tupDrop 0 t36_46)), t37_33, t38_34, t39_35, t40_36, t41_42, t42_37, t43_38, t44_39, t45_40, t46_41, t47_43, t48_44, t49_45, (strip t50_47), (strip t51_48), (strip t8_50), t53_65, t54_66, t55_67, (strip t56_73), t57_68, t58_69, t59_70, t60_71, t61_75, t62_72, (strip t63_76), PV.undef])
 (M.bind (noPan (M.pure (strip v5))) fun t53_51 =>
 M.bind (noPan (M.pure (strip v6))) fun t54_52 =>
 M.bind (noPan (iaS 4 t53_51 t54_52)) fun t55_53 =>
 M.bind (noPan (M.pure (strip v5))) fun t57_54 =>
 M.bind (noPan (M.pure (strip v6))) fun t58_55 =>
 M.bind (noPan (iaS 4 t57_54 t58_55)) fun t59_56 =>
 M.bind (noPan (fa 1 t59_56)) fun t60_57 =>
 M.bind (noPan (M.pure (strip t7_49))) fun t62_58 =>
 M.bind (noPan (ld (some 4) true t55_53)) fun t56_59 =>
 M.bind (noPan (ld none false t60_57)) fun t61_60 =>
 M.bind (noPan (bi .add .none t61_60 t62_58)) fun t63_61 =>
 M.bind (noPan (st 4 true v2 t56_59)) fun _ =>
 M.bind (noPan (M.pure t63_61)) fun t3_63 =>
 M.bind (noPan (M.pure (.bool true))) fun t4_64 =>
 M.pure [v0, PV.undef, v2, t3_63, t4_64, v5, v6, t7_49, t8_50, PV.undef, PV.undef, PV.undef, PV.undef, (strip v6), (strip v5), t15_0, t16_1, PV.undef, PV.undef, (strip v0), (strip v5), (strip v6), t22_2, t23_3, t24_4, t25_5, (strip t25_5), t27_6, t28_7, t29_8, t30_9, t31_10, t32_11, t33_12, t34_13, t35_14, (tupDrop 1 (tupDrop 0 t36_46)), t37_33, t38_34, t39_35, t40_36, t41_42, t42_37, t43_38, t44_39, t45_40, t46_41, t47_43, t48_44, t49_45, (strip t50_47), (strip t51_48), (strip t8_50), t53_51, t54_52, t55_53, (strip t56_59), t57_54, t58_55, t59_56, t60_57, t61_60, t62_58, (strip t63_61), PV.undef]) <|
 chk
 (M.bind (noPan (M.pure (strip v5))) fun t53_79 =>
 M.bind (noPan (M.pure (strip v6))) fun t54_80 =>
 M.bind (noPan (iaS 4 t53_79 t54_80)) fun t55_81 =>
 M.bind (noPan (M.pure (strip v5))) fun t57_82 =>
 M.bind (noPan (M.pure (strip v6))) fun t58_83 =>
 M.bind (noPan (iaS 4 t57_82 t58_83)) fun t59_84 =>
 M.bind (noPan (fa 1 t59_84)) fun t60_85 =>
 M.bind (noPan (M.pure (strip t7_49))) fun t62_86 =>
 M.bind (noPan (ld none false t60_85)) fun t61_87 =>
 M.bind (noPan (bi .add .none t61_87 t62_86)) fun t63_88 =>
 M.bind (noPan (ld (some 4) true t55_81)) fun t56_89 =>
 M.bind (noPan (st 4 true v2 t56_89)) fun _ =>
 M.bind (noPan (M.pure t63_88)) fun t3_91 =>
 M.bind (noPan (M.pure (.bool true))) fun t4_92 =>
 M.pure [v0, PV.undef, v2, t3_91, t4_92, v5, v6, t7_49, t8_50, PV.undef, PV.undef, PV.undef, PV.undef, (strip v6), (strip v5), t15_0, t16_1, PV.undef, PV.undef, (strip v0), (strip v5), (strip v6), t22_2, t23_3, t24_4, t25_5, (strip t25_5), t27_6, t28_7, t29_8, t30_9, t31_10, t32_11, t33_12, t34_13, t35_14, (tupDrop 1 (tupDrop 0 t36_46)), t37_33, t38_34, t39_35, t40_36, t41_42, t42_37, t43_38, t44_39, t45_40, t46_41, t47_43, t48_44, t49_45, (strip t50_47), (strip t51_48), (strip t8_50), t53_79, t54_80, t55_81, (strip t56_89), t57_82, t58_83, t59_84, t60_85, t61_87, t62_86, (strip t63_88), PV.undef])
 (M.bind (noPan (M.pure (strip v5))) fun t53_51 =>
 M.bind (noPan (M.pure (strip v6))) fun t54_52 =>
 M.bind (noPan (iaS 4 t53_51 t54_52)) fun t55_53 =>
 M.bind (noPan (M.pure (strip v5))) fun t57_54 =>
 M.bind (noPan (M.pure (strip v6))) fun t58_55 =>
 M.bind (noPan (iaS 4 t57_54 t58_55)) fun t59_56 =>
 M.bind (noPan (fa 1 t59_56)) fun t60_57 =>
 M.bind (noPan (M.pure (strip t7_49))) fun t62_58 =>
 M.bind (noPan (ld (some 4) true t55_53)) fun t56_59 =>
 M.bind (noPan (ld none false t60_57)) fun t61_60 =>
 M.bind (noPan (bi .add .none t61_60 t62_58)) fun t63_61 =>
 M.bind (noPan (st 4 true v2 t56_59)) fun _ =>
 M.bind (noPan (M.pure t63_61)) fun t3_63 =>
 M.bind (noPan (M.pure (.bool true))) fun t4_64 =>
 M.pure [v0, PV.undef, v2, t3_63, t4_64, v5, v6, t7_49, t8_50, PV.undef, PV.undef, PV.undef, PV.undef, (strip v6), (strip v5), t15_0, t16_1, PV.undef, PV.undef, (strip v0), (strip v5), (strip v6), t22_2, t23_3, t24_4, t25_5, (strip t25_5), t27_6, t28_7, t29_8, t30_9, t31_10, t32_11, t33_12, t34_13, t35_14, (tupDrop 1 (tupDrop 0 t36_46)), t37_33, t38_34, t39_35, t40_36, t41_42, t42_37, t43_38, t44_39, t45_40, t46_41, t47_43, t48_44, t49_45, (strip t50_47), (strip t51_48), (strip t8_50), t53_51, t54_52, t55_53, (strip t56_59), t57_54, t58_55, t59_56, t60_57, t61_60, t62_58, (strip t63_61), PV.undef]) <|
 M.bind (noPan (M.pure (strip v5))) fun t53_93 =>
 M.bind (noPan (M.pure (strip v6))) fun t54_94 =>
 M.bind (noPan (iaS 4 t53_93 t54_94)) fun t55_95 =>
 M.bind (noPan (M.pure (strip v5))) fun t57_96 =>
 M.bind (noPan (M.pure (strip v6))) fun t58_97 =>
 M.bind (noPan (iaS 4 t57_96 t58_97)) fun t59_98 =>
 M.bind (noPan (fa 1 t59_98)) fun t60_99 =>
 M.bind (noPan (M.pure (strip t7_49))) fun t62_100 =>
 M.bind (noPan (ld (some 4) true t55_95)) fun t56_101 =>
 M.bind (noPan (ld none false t60_99)) fun t61_102 =>
 M.bind (noPan (bi .add .none t61_102 t62_100)) fun t63_103 =>
 M.bind (noPan (st 4 true v2 t56_101)) fun _ =>
 M.bind (noPan (M.pure t63_103)) fun t3_105 =>
 M.bind (noPan (M.pure (.bool true))) fun t4_106 =>
 M.bind (ld (some 4) true v2) fun t0_107 => guardM (!isTup t0_107) (resT t3_105 (resT t4_106 (M.pure (.tup [t0_107, t3_105, t4_106])))))
 (p_ratchetref09_find_111010011 v0 v2 v3 v4 v5 v6)))
 (M.bind (bd [(.int .i64 0), (.str ⟨#[]⟩), (.str ⟨#[]⟩), (.str ⟨#[]⟩)] []) fun t64_108 =>
 M.bind (st 4 true v2 t64_108) fun _ =>
 M.bind (ld (some 4) true v2) fun t0_110 => guardM (!isTup t0_110) (M.pure (.tup [t0_110, (.str ⟨#[]⟩), (.bool false)]))) :=
 (atP_step P X _ _ _).trans (by kernel_rfl)
theorem p_ratchetref09_find_111010011_eq (v0 v2 v3 v4 v5 v6 : PV) : p_ratchetref09_find_111010011 v0 v2 v3 v4 v5 v6 =
 M.bind (bi .add .none (strip v6) (.int .i64 1)) fun t18_0 =>
 p_ratchetref09_find_111010 v0 v2 v3 v4 v5 t18_0 :=
 (atP_step P X _ _ _).trans (by kernel_rfl)
theorem ratchetref09_find_eq (a0 : PV) : C k_ratchetref09_find [a0] =
 trunc (M.bind (al [(.int .i64 0), (.str ⟨#[]⟩), (.str ⟨#[]⟩), (.str ⟨#[]⟩)]) fun t2_0 =>
 M.bind (C k_ratchetref09_table []) fun t9_1 =>
 M.bind (bi .geq .none (strip a0) (.int .i64 208)) fun t11_2 =>
 condM t11_2
 (M.bind (C k_ratchetref09_refs []) fun t12_3 =>
 p_ratchetref09_find_111 a0 t2_0 (.str ⟨#[]⟩) (.bool false) t12_3)
 (p_ratchetref09_find_111 a0 t2_0 (.str ⟨#[]⟩) (.bool false) t9_1)) := by
 rw [C, callW_eq _ _ rfl]; kernel_rfl
end Go.Proofs.Ythidcpkcfoldmaa.Pi.Q
namespace Go.Proofs.Ythidcpkcfoldmaa.Pi.Q
open Go Go.Proofs.Ythidcpkcfoldmaa.Pi
set_option linter.unusedVariables false
set_option maxRecDepth 100000
theorem instr_pen_u_eq (a0 a1 : PV) : C k_instr_pen_u [a0, a1] =
 trunc (chk
 (M.bind (noPan (M.pure (strip a0))) fun t4_11 =>
 M.bind (noPan (M.pure (strip a0))) fun t5_12 =>
 M.bind (noPan (nc P t5_12)) fun t6_13 =>
 M.bind (noPan (fa 0 t6_13)) fun t7_14 =>
 M.bind (noPan (M.pure (strip a1))) fun t9_15 =>
 M.bind (noPan (C k_leb_PutU [(strip t9_15)])) fun t10_16 =>
 M.bind (noPan (ld none true t7_14)) fun t8_17 =>
 M.bind (noPan (ap true 1 1 t8_17 t10_16)) fun t11_18 =>
 M.bind (noPan (nc P t4_11)) fun t12_19 =>
 M.bind (noPan (fa 0 t12_19)) fun t13_20 =>
 M.bind (noPan (st 1 true t13_20 t11_18)) fun _ =>
 M.pure [a0, a1, .undef, .undef, t4_11, t5_12, t6_13, t7_14, (strip t8_17), t9_15, t10_16, (strip t11_18), t12_19, t13_20])
 (M.bind (noPan (M.pure (strip a0))) fun t4_0 =>
 M.bind (noPan (M.pure (strip a0))) fun t5_1 =>
 M.bind (noPan (nc P t5_1)) fun t6_2 =>
 M.bind (noPan (fa 0 t6_2)) fun t7_3 =>
 M.bind (noPan (M.pure (strip a1))) fun t9_4 =>
 M.bind (noPan (ld none true t7_3)) fun t8_5 =>
 M.bind (noPan (C k_leb_PutU [(strip t9_4)])) fun t10_6 =>
 M.bind (noPan (ap true 1 1 t8_5 t10_6)) fun t11_7 =>
 M.bind (noPan (nc P t4_0)) fun t12_8 =>
 M.bind (noPan (fa 0 t12_8)) fun t13_9 =>
 M.bind (noPan (st 1 true t13_9 t11_7)) fun _ =>
 M.pure [a0, a1, .undef, .undef, t4_0, t5_1, t6_2, t7_3, (strip t8_5), t9_4, t10_6, (strip t11_7), t12_8, t13_9]) <|
 M.bind (noPan (M.pure (strip a0))) fun t4_22 =>
 M.bind (noPan (M.pure (strip a0))) fun t5_23 =>
 M.bind (noPan (nc P t5_23)) fun t6_24 =>
 M.bind (noPan (fa 0 t6_24)) fun t7_25 =>
 M.bind (noPan (M.pure (strip a1))) fun t9_26 =>
 M.bind (noPan (ld none true t7_25)) fun t8_27 =>
 M.bind (noPan (C k_leb_PutU [(strip t9_26)])) fun t10_28 =>
 M.bind (noPan (ap true 1 1 t8_27 t10_28)) fun t11_29 =>
 M.bind (noPan (nc P t4_22)) fun t12_30 =>
 M.bind (noPan (fa 0 t12_30)) fun t13_31 =>
 M.bind (noPan (st 1 true t13_31 t11_29)) fun _ =>
 M.pure (.tup [])) := by
 rw [C, callW_eq _ _ rfl]; kernel_rfl
theorem instr_pen_must_eq (a0 a1 : PV) : C k_instr_pen_must [a0, a1] =
 trunc (M.bind (nc P (strip a0)) fun t6_0 =>
 M.bind (fa 1 t6_0) fun t7_1 =>
 M.bind (ld none false t7_1) fun t8_2 =>
 M.bind (gd (strip t8_2) false (M.pure (strip a1))) fun t10_3 =>
 M.bind (gd (strip t8_2) false (un .not t10_3)) fun t11_4 =>
 M.bind (pick (strip t8_2) (.bool true) t11_4) fun t12_5 =>
 M.bind (nc P (strip a0)) fun t13_6 =>
 M.bind (fa 1 t13_6) fun t14_7 =>
 M.bind (st 1 true t14_7 t12_5) fun _ =>
 M.pure (.tup [])) := by
 rw [C, callW_eq _ _ rfl]; kernel_rfl
theorem instr_pen_put_eq (a0 a1 a2 : PV) : C k_instr_pen_put [a0, a1, a2] =
 trunc (M.bind (bi .eql .none (strip a2) (.int .i64 0)) fun t8_0 =>
 M.bind (C k_instr_pen_must [(strip (strip a0)), (strip t8_0)]) fun t9_1 =>
 M.bind (nc P (strip a0)) fun t12_2 =>
 M.bind (fa 0 t12_2) fun t13_3 =>
 M.bind (ld none true t13_3) fun t14_4 =>
 M.bind (ap true 1 1 t14_4 (strip a1)) fun t16_5 =>
 M.bind (nc P (strip a0)) fun t17_6 =>
 M.bind (fa 0 t17_6) fun t18_7 =>
 M.bind (st 1 true t18_7 t16_5) fun _ =>
 M.pure (.tup [])) := by
 rw [C, callW_eq _ _ rfl]; kernel_rfl
theorem entry_PutBlockType_eq (a0 : PV) : C k_entry_PutBlockType [a0] =
 trunc (M.bind (bx 4 a0) fun t1_0 =>
 M.bind (mf k_entry_PutBlockType_1 [] [t1_0]) fun t4_1 =>
 M.bind (C k_entry_write [(strip t4_1)]) fun t5_2 =>
 M.bind (ex 0 t5_2) fun t6_3 =>
 M.bind (ex 1 (tupDrop 0 t5_2)) fun t7_4 =>
 resT t6_3 (resT t7_4 (M.pure (.tup [t6_3, t7_4])))) := by
 rw [C, callW_eq _ _ rfl]; kernel_rfl
noncomputable def p_instr_pen_try_111110 (v0 v26 v27 v28 : PV) : M PV := atP P X k_instr_pen_try [1, 1, 1, 1, 1, 0] (mkEnv 78 0 [(0, v0), (26, v26), (27, v27), (28, v28)])
noncomputable def p_instr_pen_try_111110011001111 (v0 v5 v26 v27 v28 : PV) : M PV := atP P X k_instr_pen_try [1, 1, 1, 1, 1, 0, 0, 1, 1, 0, 0, 1, 1, 1, 1] (mkEnv 78 0 [(0, v0), (5, v5), (26, v26), (27, v27), (28, v28)])
theorem p_instr_pen_try_111110_eq (v0 v26 v27 v28 : PV) : p_instr_pen_try_111110 v0 v26 v27 v28 =
 M.bind (bi .lss .none v28 v27) fun t29_0 =>
 condM t29_0
 (M.bind (iaS 3 v26 v28) fun t30_1 =>
 M.bind (ld (some 3) true t30_1) fun t31_2 =>
 M.bind (al [(.int .i64 0), (.int .u32 0), (.int .u32 0)]) fun t5_3 =>
 M.bind (st 3 true t5_3 t31_2) fun _ =>
 M.bind (fa 0 t5_3) fun t33_5 =>
 M.bind (ld none false t33_5) fun t34_6 =>
 M.bind (bi .geq .none t34_6 (.int .i64 0)) fun t35_7 =>
 M.bind (gd (strip t35_7) true (fa 0 t5_3)) fun t37_8 =>
 M.bind (gd (strip t35_7) true (ld none false t37_8)) fun t38_9 =>
 M.bind (gd (strip t35_7) true (bi .leq .none t38_9 (.int .i64 3))) fun t39_10 =>
 M.bind (pick (strip t35_7) t39_10 (.bool false)) fun t40_11 =>
 M.bind (gd (strip t40_11) true (fa 0 t5_3)) fun t42_12 =>
 M.bind (gd (strip t40_11) true (ld none false t42_12)) fun t43_13 =>
 M.bind (gd (strip t40_11) true (bi .lss .none t43_13 (.int .i64 2))) fun t44_14 =>
 M.bind (gd (strip t40_11) true (M.pure (strip t44_14))) fun t45_15 =>
 M.bind (gd t45_15 false (fa 1 t5_3)) fun t46_16 =>
 M.bind (gd t45_15 false (ld none false t46_16)) fun t47_17 =>
 M.bind (gd t45_15 false (bi .eql .none t47_17 (.int .u32 0))) fun t48_18 =>
 M.bind (gd (strip t40_11) true (pick t45_15 (.bool true) t48_18)) fun t49_19 =>
 M.bind (pick (strip t40_11) t49_19 (.bool false)) fun t50_20 =>
 M.bind (C k_instr_pen_must [(strip (strip v0)), (strip t50_20)]) fun t51_21 =>
 chk
 (M.bind (noPan (M.pure (strip v0))) fun t52_35 =>
 M.bind (noPan (M.pure (strip v0))) fun t53_36 =>
 M.bind (noPan (nc P t53_36)) fun t54_37 =>
 M.bind (noPan (fa 0 t54_37)) fun t55_38 =>
 M.bind (noPan (fa 0 t5_3)) fun t57_39 =>
 M.bind (noPan (ld none false t57_39)) fun t58_40 =>
 M.bind (noPan (cv (.int .u8) true t58_40)) fun t59_41 =>
 M.bind (noPan (bs true none [t59_41])) fun t60_42 =>
 M.bind (noPan (ld none true t55_38)) fun t56_43 =>
 M.bind (noPan (ap true 1 1 t56_43 t60_42)) fun t61_44 =>
 M.bind (noPan (nc P t52_35)) fun t62_45 =>
 M.bind (noPan (fa 0 t62_45)) fun t63_46 =>
 M.bind (noPan (st 1 true t63_46 t61_44)) fun _ =>
 M.pure [v0, PV.undef, PV.undef, PV.undef, PV.undef, t5_3, PV.undef, PV.undef, PV.undef, PV.undef, PV.undef, PV.undef, PV.undef, PV.undef, PV.undef, PV.undef, PV.undef, PV.undef, PV.undef, PV.undef, PV.undef, PV.undef, PV.undef, PV.undef, PV.undef, PV.undef, v26, v27, v28, t29_0, t30_1, (strip t31_2), (strip v0), t33_5, t34_6, t35_7, (strip t35_7), t37_8, t38_9, t39_10, t40_11, (strip t40_11), t42_12, t43_13, t44_14, t45_15, t46_16, t47_17, t48_18, t49_19, t50_20, t51_21, t52_35, t53_36, t54_37, t55_38, (strip t56_43), t57_39, t58_40, t59_41, t60_42, (strip t61_44), t62_45, t63_46, PV.undef, PV.undef, PV.undef, PV.undef, PV.undef, PV.undef, PV.undef, PV.undef, PV.undef, PV.undef, PV.undef, PV.undef, PV.undef, PV.undef])
 (M.bind (noPan (M.pure (strip v0))) fun t52_22 =>
 M.bind (noPan (M.pure (strip v0))) fun t53_23 =>
 M.bind (noPan (nc P t53_23)) fun t54_24 =>
 M.bind (noPan (fa 0 t54_24)) fun t55_25 =>
 M.bind (noPan (fa 0 t5_3)) fun t57_26 =>
 M.bind (noPan (ld none true t55_25)) fun t56_27 =>
 M.bind (noPan (ld none false t57_26)) fun t58_28 =>
 M.bind (noPan (cv (.int .u8) true t58_28)) fun t59_29 =>
 M.bind (noPan (bs true none [t59_29])) fun t60_30 =>
 M.bind (noPan (ap true 1 1 t56_27 t60_30)) fun t61_31 =>
 M.bind (noPan (nc P t52_22)) fun t62_32 =>
 M.bind (noPan (fa 0 t62_32)) fun t63_33 =>
 M.bind (noPan (st 1 true t63_33 t61_31)) fun _ =>
 M.pure [v0, PV.undef, PV.undef, PV.undef, PV.undef, t5_3, PV.undef, PV.undef, PV.undef, PV.undef, PV.undef, PV.undef, PV.undef, PV.undef, PV.undef, PV.undef, PV.undef, PV.undef, PV.undef, PV.undef, PV.undef, PV.undef, PV.undef, PV.undef, PV.undef, PV.undef, v26, v27, v28, t29_0, t30_1, (strip t31_2), (strip v0), t33_5, t34_6, t35_7, (strip t35_7), t37_8, t38_9, t39_10, t40_11, (strip t40_11), t42_12, t43_13, t44_14, t45_15, t46_16, t47_17, t48_18, t49_19, t50_20, t51_21, t52_22, t53_23, t54_24, t55_25, (strip t56_27), t57_26, t58_28, t59_29, t60_30, (strip t61_31), t62_32, t63_33, PV.undef, PV.undef, PV.undef, PV.undef, PV.undef, PV.undef, PV.undef, PV.undef, PV.undef, PV.undef, PV.undef, PV.undef, PV.undef, PV.undef]) <|
 M.bind (noPan (M.pure (strip v0))) fun t52_48 =>
 M.bind (noPan (M.pure (strip v0))) fun t53_49 =>
 M.bind (noPan (nc P t53_49)) fun t54_50 =>
 M.bind (noPan (fa 0 t54_50)) fun t55_51 =>
 M.bind (noPan (fa 0 t5_3)) fun t57_52 =>
 M.bind (noPan (ld none true t55_51)) fun t56_53 =>
 M.bind (noPan (ld none false t57_52)) fun t58_54 =>
 M.bind (noPan (cv (.int .u8) true t58_54)) fun t59_55 =>
 M.bind (noPan (bs true none [t59_55])) fun t60_56 =>
 M.bind (noPan (ap true 1 1 t56_53 t60_56)) fun t61_57 =>
 M.bind (noPan (nc P t52_48)) fun t62_58 =>
 M.bind (noPan (fa 0 t62_58)) fun t63_59 =>
 M.bind (noPan (st 1 true t63_59 t61_57)) fun _ =>
 M.bind (fa 0 t5_3) fun t64_61 =>
 M.bind (ld none false t64_61) fun t65_62 =>
 M.bind (bi .lss .none t65_62 (.int .i64 2)) fun t66_63 =>
 condM t66_63
 (M.bind (fa 1 t5_3) fun t68_64 =>
 M.bind (ld none false t68_64) fun t69_65 =>
 M.bind (cv (.int .u64) true t69_65) fun t70_66 =>
 M.bind (C k_instr_pen_u [(strip (strip v0)), (strip t70_66)]) fun t71_67 =>
 p_instr_pen_try_111110011001111 v0 t5_3 v26 v27 v28)
 (p_instr_pen_try_111110011001111 v0 t5_3 v26 v27 v28))
 (M.pure (.tup [])) :=
 (atP_step P X _ _ _).trans (by kernel_rfl)
theorem p_instr_pen_try_111110011001111_eq (v0 v5 v26 v27 v28 : PV) : p_instr_pen_try_111110011001111 v0 v5 v26 v27 v28 =
 M.bind (fa 2 v5) fun t73_0 =>
 M.bind (ld none false t73_0) fun t74_1 =>
 M.bind (cv (.int .u64) true t74_1) fun t75_2 =>
 M.bind (C k_instr_pen_u [(strip (strip v0)), (strip t75_2)]) fun t76_3 =>
 M.bind (bi .add .none v28 (.int .i64 1)) fun t77_4 =>
 p_instr_pen_try_111110 v0 v26 v27 (strip t77_4) :=
 (atP_step P X _ _ _).trans (by kernel_rfl)
theorem instr_pen_try_eq (a0 a1 : PV) : C k_instr_pen_try [a0, a1] =
 trunc (M.bind (bx 17 a1) fun t3_0 =>
 M.bind (fa 7 t3_0) fun t7_1 =>
 M.bind (ld (some 4) false t7_1) fun t8_2 =>
 M.bind (C k_entry_PutBlockType [(strip t8_2)]) fun t9_3 =>
 M.bind (ex 0 t9_3) fun t10_4 =>
 M.bind (ex 1 (tupDrop 0 t9_3)) fun t11_5 =>
 M.bind (C k_instr_pen_put [(strip (strip a0)), (strip t10_4), (strip t11_5)]) fun t12_6 =>
 M.bind (fa 16 t3_0) fun t14_7 =>
 M.bind (ld none false t14_7) fun t15_8 =>
 M.bind (lnL t15_8) fun t16_9 =>
 M.bind (bi .leq .none t16_9 (.int .i64 65536)) fun t17_10 =>
 M.bind (C k_instr_pen_must [(strip (strip a0)), (strip t17_10)]) fun t18_11 =>
 M.bind (fa 16 t3_0) fun t20_12 =>
 M.bind (ld none false t20_12) fun t21_13 =>
 M.bind (lnL t21_13) fun t22_14 =>
 M.bind (cv (.int .u64) true t22_14) fun t23_15 =>
 M.bind (C k_instr_pen_u [(strip (strip a0)), (strip t23_15)]) fun t24_16 =>
 M.bind (fa 16 t3_0) fun t25_17 =>
 M.bind (ld none false t25_17) fun t26_18 =>
 M.bind (lnL t26_18) fun t27_19 =>
 p_instr_pen_try_111110 a0 t26_18 t27_19 (.int .i64 0)) := by
 rw [C, callW_eq _ _ rfl]; kernel_rfl
noncomputable def p_instr_pen_lists_111110 (v0 v56 v57 v58 : PV) : M PV := atP P X k_instr_pen_lists [1, 1, 1, 1, 1, 0] (mkEnv 67 0 [(0, v0), (56, v56), (57, v57), (58, v58)])
noncomputable def p_instr_pen_lists_101011010 (v0 v4 v25 v26 v27 : PV) : M PV := atP P X k_instr_pen_lists [1, 0, 1, 0, 1, 1, 0, 1, 0] (mkEnv 67 0 [(0, v0), (4, v4), (25, v25), (26, v26), (27, v27)])
theorem p_instr_pen_lists_111110_eq (v0 v56 v57 v58 : PV) : p_instr_pen_lists_111110 v0 v56 v57 v58 =
 M.bind (bi .lss .none v58 v57) fun t59_0 =>
 condM t59_0
 (M.bind (iaS 1 v56 v58) fun t60_1 =>
 M.bind (ld none true t60_1) fun t61_2 =>
 M.bind (cv (.int .u64) true (strip t61_2)) fun t64_3 =>
 M.bind (C k_instr_pen_u [(strip (strip v0)), (strip t64_3)]) fun t65_4 =>
 M.bind (bi .add .none v58 (.int .i64 1)) fun t66_5 =>
 p_instr_pen_lists_111110 v0 v56 v57 (strip t66_5))
 (M.pure (.tup [])) :=
 (atP_step P X _ _ _).trans (by kernel_rfl)
theorem p_instr_pen_lists_101011010_eq (v0 v4 v25 v26 v27 : PV) : p_instr_pen_lists_101011010 v0 v4 v25 v26 v27 =
 M.bind (bi .lss .none v27 v26) fun t28_0 =>
 condM t28_0
 (M.bind (iaS 3 v25 v27) fun t29_1 =>
 M.bind (ld (some 3) true t29_1) fun t30_2 =>
 M.bind (al [(.int .i64 0), (.bool false), (.int .i64 0)]) fun t7_3 =>
 M.bind (st 3 true t7_3 t30_2) fun _ =>
 M.bind (ld (some 3) false t7_3) fun t32_5 =>
 M.bind (C k_entry_PutValType [(strip t32_5)]) fun t33_6 =>
 M.bind (ex 0 t33_6) fun t34_7 =>
 M.bind (ex 1 (tupDrop 0 t33_6)) fun t35_8 =>
 M.bind (C k_instr_pen_put [(strip (strip v0)), (strip t34_7), (strip t35_8)]) fun t36_9 =>
 M.bind (bi .add .none v27 (.int .i64 1)) fun t37_10 =>
 p_instr_pen_lists_101011010 v0 v4 v25 v26 (strip t37_10))
 (M.pure (.tup [])) :=
 (atP_step P X _ _ _).trans (by kernel_rfl)
theorem instr_pen_lists_eq (a0 a1 a2 : PV) : C k_instr_pen_lists [a0, a1, a2] =
 trunc (M.bind (bx 17 a1) fun t4_0 =>
 M.bind (bi .eql .none (strip a2) (.int .i64 7)) fun t11_1 =>
 condM t11_1
 (M.bind (fa 15 t4_0) fun t13_2 =>
 M.bind (ld none false t13_2) fun t14_3 =>
 M.bind (lnL t14_3) fun t15_4 =>
 M.bind (bi .leq .none t15_4 (.int .i64 1000)) fun t16_5 =>
 M.bind (C k_instr_pen_must [(strip (strip a0)), (strip t16_5)]) fun t17_6 =>
 M.bind (fa 15 t4_0) fun t19_7 =>
 M.bind (ld none false t19_7) fun t20_8 =>
 M.bind (lnL t20_8) fun t21_9 =>
 M.bind (cv (.int .u64) true t21_9) fun t22_10 =>
 M.bind (C k_instr_pen_u [(strip (strip a0)), (strip t22_10)]) fun t23_11 =>
 M.bind (fa 15 t4_0) fun t24_12 =>
 M.bind (ld none false t24_12) fun t25_13 =>
 M.bind (lnL t25_13) fun t26_14 =>
 p_instr_pen_lists_101011010 a0 t4_0 t25_13 t26_14 (.int .i64 0))
 (M.bind (fa 14 t4_0) fun t39_15 =>
 M.bind (ld none false t39_15) fun t40_16 =>
 M.bind (lnL t40_16) fun t41_17 =>
 M.bind (bi .leq .none t41_17 (.int .i64 65536)) fun t42_18 =>
 M.bind (C k_instr_pen_must [(strip (strip a0)), (strip t42_18)]) fun t43_19 =>
 M.bind (fa 14 t4_0) fun t45_20 =>
 M.bind (ld none false t45_20) fun t46_21 =>
 M.bind (lnL t46_21) fun t47_22 =>
 M.bind (cv (.int .u64) true t47_22) fun t48_23 =>
 M.bind (C k_instr_pen_u [(strip (strip a0)), (strip t48_23)]) fun t49_24 =>
 nb (fa 14 t4_0) fun t50_25 =>
 nb (ld none false t50_25) fun t51_26 =>
 nb (ap true 1 4 (.slice false true 0 []) t51_26) fun t52_27 =>
 nb (fa 1 t4_0) fun t53_28 =>
 nb (ld none false t53_28) fun t54_29 =>
 nb (bs true none [t54_29]) fun t55_30 =>
 nb (ap true 1 4 t52_27 t55_30) fun t56_31 =>
 nb (lnL t56_31) fun t57_32 =>
 p_instr_pen_lists_111110 a0 t56_31 t57_32 (.int .i64 0))) := by
 rw [C, callW_eq _ _ rfl]; kernel_rfl
noncomputable def p_instr_pen_mem_111 (v0 v3 : PV) : M PV := atP P X k_instr_pen_mem [1, 1, 1] (mkEnv 32 0 [(0, v0), (3, v3)])
theorem p_instr_pen_mem_111_eq (v0 v3 : PV) : p_instr_pen_mem_111 v0 v3 =
 M.bind (fa 2 v3) fun t29_0 =>
 M.bind (ld none false t29_0) fun t30_1 =>
 M.bind (C k_instr_pen_u [(strip (strip v0)), (strip t30_1)]) fun t31_2 =>
 M.pure (.tup []) :=
 (atP_step P X _ _ _).trans (by kernel_rfl)
theorem instr_pen_mem_eq (a0 a1 : PV) : C k_instr_pen_mem [a0, a1] =
 trunc (M.bind (bx 3 a1) fun t3_0 =>
 M.bind (fa 0 t3_0) fun t5_1 =>
 M.bind (ld none false t5_1) fun t6_2 =>
 M.bind (bi .lss .none t6_2 (.int .u32 64)) fun t7_3 =>
 M.bind (C k_instr_pen_must [(strip (strip a0)), (strip t7_3)]) fun t8_4 =>
 M.bind (fa 1 t3_0) fun t9_5 =>
 M.bind (ld none false t9_5) fun t10_6 =>
 M.bind (bi .eql .none t10_6 (.int .u32 0)) fun t11_7 =>
 condM t11_7
 (M.bind (fa 0 t3_0) fun t13_8 =>
 M.bind (ld none false t13_8) fun t14_9 =>
 M.bind (cv (.int .u64) true t14_9) fun t15_10 =>
 M.bind (C k_instr_pen_u [(strip (strip a0)), (strip t15_10)]) fun t16_11 =>
 p_instr_pen_mem_111 a0 t3_0)
 (M.bind (fa 0 t3_0) fun t18_12 =>
 M.bind (ld none false t18_12) fun t19_13 =>
 M.bind (cv (.int .u64) true t19_13) fun t20_14 =>
 M.bind (bi .add .none t20_14 (.int .u64 64)) fun t21_15 =>
 M.bind (C k_instr_pen_u [(strip (strip a0)), (strip t21_15)]) fun t22_16 =>
 M.bind (fa 1 t3_0) fun t24_17 =>
 M.bind (ld none false t24_17) fun t25_18 =>
 M.bind (cv (.int .u64) true t25_18) fun t26_19 =>
 M.bind (C k_instr_pen_u [(strip (strip a0)), (strip t26_19)]) fun t27_20 =>
 p_instr_pen_mem_111 a0 t3_0)) := by
 rw [C, callW_eq _ _ rfl]; kernel_rfl
noncomputable def p_instr_pen_refs_110 (v0 v14 v15 v16 : PV) : M PV := atP P X k_instr_pen_refs [1, 1, 0] (mkEnv 33 0 [(0, v0), (14, v14), (15, v15), (16, v16)])
theorem p_instr_pen_refs_110_eq (v0 v14 v15 v16 : PV) : p_instr_pen_refs_110 v0 v14 v15 v16 =
 M.bind (bi .lss .none v16 v15) fun t17_0 =>
 condM t17_0
 (M.bind (iaS 3 v14 v16) fun t18_1 =>
 M.bind (ld (some 3) true t18_1) fun t19_2 =>
 M.bind (al [(.int .i64 0), (.bool false), (.int .i64 0)]) fun t7_3 =>
 M.bind (st 3 true t7_3 t19_2) fun _ =>
 M.bind (fa 0 t7_3) fun t21_5 =>
 M.bind (ld none false t21_5) fun t22_6 =>
 M.bind (bi .eql .none t22_6 (.int .i64 5)) fun t23_7 =>
 M.bind (C k_instr_pen_must [(strip (strip v0)), (strip t23_7)]) fun t24_8 =>
 M.bind (fa 2 t7_3) fun t26_9 =>
 M.bind (ld none false t26_9) fun t27_10 =>
 M.bind (C k_entry_PutHeapType [(strip t27_10)]) fun t28_11 =>
 M.bind (ex 0 t28_11) fun t29_12 =>
 M.bind (ex 1 (tupDrop 0 t28_11)) fun t30_13 =>
 M.bind (C k_instr_pen_put [(strip (strip v0)), (strip t29_12), (strip t30_13)]) fun t31_14 =>
 M.bind (bi .add .none v16 (.int .i64 1)) fun t32_15 =>
 p_instr_pen_refs_110 v0 v14 v15 (strip t32_15))
 (M.pure (.tup [])) :=
 (atP_step P X _ _ _).trans (by kernel_rfl)
theorem instr_pen_refs_eq (a0 a1 a2 : PV) : C k_instr_pen_refs [a0, a1, a2] =
 trunc (M.bind (lnL (strip a1)) fun t10_0 =>
 M.bind (bi .eql .none t10_0 (strip a2)) fun t12_1 =>
 M.bind (C k_instr_pen_must [(strip (strip a0)), (strip t12_1)]) fun t13_2 =>
 M.bind (lnL (strip a1)) fun t15_3 =>
 p_instr_pen_refs_110 a0 (strip a1) t15_3 (.int .i64 0)) := by
 rw [C, callW_eq _ _ rfl]; kernel_rfl
noncomputable def p_instr_pen_brCast_11010 (v0 v3 v4 v8 v9 v10 : PV) : M PV := atP P X k_instr_pen_brCast [1, 1, 0, 1, 0] (mkEnv 45 0 [(0, v0), (3, v3), (4, v4), (8, v8), (9, v9), (10, v10)])
noncomputable def p_instr_pen_brCast_110100111 (v0 v3 v4 v8 v9 v10 : PV) : M PV := atP P X k_instr_pen_brCast [1, 1, 0, 1, 0, 0, 1, 1, 1] (mkEnv 45 0 [(0, v0), (3, v3), (4, v4), (8, v8), (9, v9), (10, v10)])
theorem p_instr_pen_brCast_11010_eq (v0 v3 v4 v8 v9 v10 : PV) : p_instr_pen_brCast_11010 v0 v3 v4 v8 v9 v10 =
 M.bind (bi .lss .none v10 v9) fun t11_0 =>
 condM t11_0
 (M.bind (iaS 3 v8 (strip v10)) fun t13_1 =>
 M.bind (ld (some 3) true t13_1) fun t14_2 =>
 M.bind (al [(.int .i64 0), (.bool false), (.int .i64 0)]) fun t6_3 =>
 M.bind (st 3 true t6_3 t14_2) fun _ =>
 M.bind (fa 1 t6_3) fun t15_5 =>
 M.bind (ld none false t15_5) fun t16_6 =>
 M.bind (gd (strip t16_6) true (M.pure (strip v10))) fun t18_7 =>
 M.bind (gd (strip t16_6) true (bi .lss .none t18_7 (.int .i64 2))) fun t19_8 =>
 M.bind (pick (strip t16_6) t19_8 (.bool false)) fun t20_9 =>
 condM t20_9
 (M.bind (bi .shl .none (.int .u8 1) (strip v10)) fun t23_10 =>
 M.bind (bi .or .none (strip v4) t23_10) fun t24_11 =>
 p_instr_pen_brCast_110100111 v0 v3 t24_11 v8 v9 (strip v10))
 (p_instr_pen_brCast_110100111 v0 v3 v4 v8 v9 (strip v10)))
 (M.bind (nc P (strip v0)) fun t28_12 =>
 M.bind (fa 0 t28_12) fun t29_13 =>
 M.bind (ld none true t29_13) fun t30_14 =>
 M.bind (bs true none [(strip v4)]) fun t32_15 =>
 M.bind (ap true 1 1 t30_14 t32_15) fun t33_16 =>
 M.bind (nc P (strip v0)) fun t34_17 =>
 M.bind (fa 0 t34_17) fun t35_18 =>
 M.bind (st 1 true t35_18 t33_16) fun _ =>
 M.bind (fa 1 v3) fun t37_20 =>
 M.bind (ld none false t37_20) fun t38_21 =>
 M.bind (cv (.int .u64) true t38_21) fun t39_22 =>
 M.bind (C k_instr_pen_u [(strip (strip v0)), (strip t39_22)]) fun t40_23 =>
 M.bind (fa 15 v3) fun t42_24 =>
 M.bind (ld none false t42_24) fun t43_25 =>
 M.bind (C k_instr_pen_refs [(strip (strip v0)), (strip t43_25), (.int .i64 2)]) fun t44_26 =>
 M.pure (.tup [])) :=
 (atP_step P X _ _ _).trans (by kernel_rfl)
theorem p_instr_pen_brCast_110100111_eq (v0 v3 v4 v8 v9 v10 : PV) : p_instr_pen_brCast_110100111 v0 v3 v4 v8 v9 v10 =
 M.bind (bi .add .none v10 (.int .i64 1)) fun t25_0 =>
 p_instr_pen_brCast_11010 v0 v3 v4 v8 v9 (strip t25_0) :=
 (atP_step P X _ _ _).trans (by kernel_rfl)
theorem instr_pen_brCast_eq (a0 a1 : PV) : C k_instr_pen_brCast [a0, a1] =
 trunc (M.bind (bx 17 a1) fun t3_0 =>
 M.bind (fa 15 t3_0) fun t7_1 =>
 M.bind (ld none false t7_1) fun t8_2 =>
 M.bind (lnL t8_2) fun t9_3 =>
 p_instr_pen_brCast_11010 a0 t3_0 (.int .u8 0) t8_2 t9_3 (.int .i64 0)) := by
 rw [C, callW_eq _ _ rfl]; kernel_rfl
theorem instr_pen_constant_eq (a0 a1 a2 : PV) : C k_instr_pen_constant [a0, a1, a2] =
 trunc (M.bind (bi .neq .none (strip a1) (.int .i64 9)) fun t8_0 =>
 M.bind (gd (strip t8_0) true (M.pure (strip a1))) fun t10_1 =>
 M.bind (gd (strip t8_0) true (bi .neq .none t10_1 (.int .i64 11))) fun t11_2 =>
 M.bind (pick (strip t8_0) t11_2 (.bool false)) fun t12_3 =>
 M.bind (gd (strip t12_3) false (M.pure (strip a2))) fun t14_4 =>
 M.bind (gd (strip t12_3) false (bi .lss .none t14_4 (.int .u64 4294967296))) fun t15_5 =>
 M.bind (pick (strip t12_3) (.bool true) t15_5) fun t16_6 =>
 M.bind (C k_instr_pen_must [(strip (strip a0)), (strip t16_6)]) fun t17_7 =>
 M.bind (bi .eql .none (strip a1) (.int .i64 9)) fun t20_8 =>
 condM t20_8
 (chk
 (M.bind (noPan (M.pure (strip a0))) fun t21_22 =>
 M.bind (noPan (M.pure (strip a0))) fun t22_23 =>
 M.bind (noPan (nc P t22_23)) fun t23_24 =>
 M.bind (noPan (fa 0 t23_24)) fun t24_25 =>
 M.bind (noPan (M.pure (strip a2))) fun t26_26 =>
 M.bind (noPan (cv (.int .i32) true t26_26)) fun t27_27 =>
 M.bind (noPan (cv (.int .i64) true t27_27)) fun t28_28 =>
 M.bind (noPan (C k_leb_PutS [(strip t28_28)])) fun t29_29 =>
 M.bind (noPan (ld none true t24_25)) fun t25_30 =>
 M.bind (noPan (ap true 1 1 t25_30 t29_29)) fun t30_31 =>
 M.bind (noPan (nc P t21_22)) fun t31_32 =>
 M.bind (noPan (fa 0 t31_32)) fun t32_33 =>
 M.bind (noPan (st 1 true t32_33 t30_31)) fun _ =>
 M.pure [a0, a1, a2, PV.undef, PV.undef, PV.undef, (strip a0), (strip a1), t8_0, (strip t8_0), t10_1, t11_2, t12_3, (strip t12_3), t14_4, t15_5, t16_6, t17_7, (strip a1), t20_8, (strip t20_8), t21_22, t22_23, t23_24, t24_25, (strip t25_30), t26_26, t27_27, t28_28, t29_29, (strip t30_31), t31_32, t32_33, PV.undef, PV.undef, PV.undef, PV.undef, PV.undef, PV.undef, PV.undef, PV.undef, PV.undef, PV.undef, PV.undef, PV.undef, PV.undef, PV.undef, PV.undef, PV.undef, PV.undef, PV.undef, PV.undef, PV.undef, PV.undef, PV.undef, PV.undef, PV.undef, PV.undef, PV.undef, PV.undef, PV.undef, PV.undef, PV.undef, PV.undef, PV.undef, PV.undef, PV.undef, PV.undef, PV.undef, PV.undef, PV.undef])
 (M.bind (noPan (M.pure (strip a0))) fun t21_9 =>
 M.bind (noPan (M.pure (strip a0))) fun t22_10 =>
 M.bind (noPan (nc P t22_10)) fun t23_11 =>
 M.bind (noPan (fa 0 t23_11)) fun t24_12 =>
 M.bind (noPan (M.pure (strip a2))) fun t26_13 =>
 M.bind (noPan (cv (.int .i32) true t26_13)) fun t27_14 =>
 M.bind (noPan (cv (.int .i64) true t27_14)) fun t28_15 =>
 M.bind (noPan (ld none true t24_12)) fun t25_16 =>
 M.bind (noPan (C k_leb_PutS [(strip t28_15)])) fun t29_17 =>
 M.bind (noPan (ap true 1 1 t25_16 t29_17)) fun t30_18 =>
 M.bind (noPan (nc P t21_9)) fun t31_19 =>
 M.bind (noPan (fa 0 t31_19)) fun t32_20 =>
 M.bind (noPan (st 1 true t32_20 t30_18)) fun _ =>
 M.pure [a0, a1, a2, PV.undef, PV.undef, PV.undef, (strip a0), (strip a1), t8_0, (strip t8_0), t10_1, t11_2, t12_3, (strip t12_3), t14_4, t15_5, t16_6, t17_7, (strip a1), t20_8, (strip t20_8), t21_9, t22_10, t23_11, t24_12, (strip t25_16), t26_13, t27_14, t28_15, t29_17, (strip t30_18), t31_19, t32_20, PV.undef, PV.undef, PV.undef, PV.undef, PV.undef, PV.undef, PV.undef, PV.undef, PV.undef, PV.undef, PV.undef, PV.undef, PV.undef, PV.undef, PV.undef, PV.undef, PV.undef, PV.undef, PV.undef, PV.undef, PV.undef, PV.undef, PV.undef, PV.undef, PV.undef, PV.undef, PV.undef, PV.undef, PV.undef, PV.undef, PV.undef, PV.undef, PV.undef, PV.undef, PV.undef, PV.undef, PV.undef, PV.undef]) <|
 M.bind (noPan (M.pure (strip a0))) fun t21_35 =>
 M.bind (noPan (M.pure (strip a0))) fun t22_36 =>
 M.bind (noPan (nc P t22_36)) fun t23_37 =>
 M.bind (noPan (fa 0 t23_37)) fun t24_38 =>
 M.bind (noPan (M.pure (strip a2))) fun t26_39 =>
 M.bind (noPan (cv (.int .i32) true t26_39)) fun t27_40 =>
 M.bind (noPan (cv (.int .i64) true t27_40)) fun t28_41 =>
 M.bind (noPan (ld none true t24_38)) fun t25_42 =>
 M.bind (noPan (C k_leb_PutS [(strip t28_41)])) fun t29_43 =>
 M.bind (noPan (ap true 1 1 t25_42 t29_43)) fun t30_44 =>
 M.bind (noPan (nc P t21_35)) fun t31_45 =>
 M.bind (noPan (fa 0 t31_45)) fun t32_46 =>
 M.bind (noPan (st 1 true t32_46 t30_44)) fun _ =>
 M.pure (.tup []))
 (M.bind (bi .eql .none (strip a1) (.int .i64 10)) fun t34_48 =>
 condM t34_48
 (chk
 (M.bind (noPan (M.pure (strip a0))) fun t35_61 =>
 M.bind (noPan (M.pure (strip a0))) fun t36_62 =>
 M.bind (noPan (nc P t36_62)) fun t37_63 =>
 M.bind (noPan (fa 0 t37_63)) fun t38_64 =>
 M.bind (noPan (M.pure (strip a2))) fun t40_65 =>
 M.bind (noPan (cv (.int .i64) true t40_65)) fun t41_66 =>
 M.bind (noPan (C k_leb_PutS [(strip t41_66)])) fun t42_67 =>
 M.bind (noPan (ld none true t38_64)) fun t39_68 =>
 M.bind (noPan (ap true 1 1 t39_68 t42_67)) fun t43_69 =>
 M.bind (noPan (nc P t35_61)) fun t44_70 =>
 M.bind (noPan (fa 0 t44_70)) fun t45_71 =>
 M.bind (noPan (st 1 true t45_71 t43_69)) fun _ =>
 M.pure [a0, a1, a2, PV.undef, PV.undef, PV.undef, (strip a0), (strip a1), t8_0, (strip t8_0), t10_1, t11_2, t12_3, (strip t12_3), t14_4, t15_5, t16_6, t17_7, (strip a1), t20_8, (strip t20_8), PV.undef, PV.undef, PV.undef, PV.undef, PV.undef, PV.undef, PV.undef, PV.undef, PV.undef, PV.undef, PV.undef, PV.undef, t34_48, (strip t34_48), t35_61, t36_62, t37_63, t38_64, (strip t39_68), t40_65, t41_66, t42_67, (strip t43_69), t44_70, t45_71, PV.undef, PV.undef, PV.undef, PV.undef, PV.undef, PV.undef, PV.undef, PV.undef, PV.undef, PV.undef, PV.undef, PV.undef, PV.undef, PV.undef, PV.undef, PV.undef, PV.undef, PV.undef, PV.undef, PV.undef, PV.undef, PV.undef, PV.undef, PV.undef, PV.undef])
 (M.bind (noPan (M.pure (strip a0))) fun t35_49 =>
 M.bind (noPan (M.pure (strip a0))) fun t36_50 =>
 M.bind (noPan (nc P t36_50)) fun t37_51 =>
 M.bind (noPan (fa 0 t37_51)) fun t38_52 =>
 M.bind (noPan (M.pure (strip a2))) fun t40_53 =>
 M.bind (noPan (cv (.int .i64) true t40_53)) fun t41_54 =>
 M.bind (noPan (ld none true t38_52)) fun t39_55 =>
 M.bind (noPan (C k_leb_PutS [(strip t41_54)])) fun t42_56 =>
 M.bind (noPan (ap true 1 1 t39_55 t42_56)) fun t43_57 =>
 M.bind (noPan (nc P t35_49)) fun t44_58 =>
 M.bind (noPan (fa 0 t44_58)) fun t45_59 =>
 M.bind (noPan (st 1 true t45_59 t43_57)) fun _ =>
 M.pure [a0, a1, a2, PV.undef, PV.undef, PV.undef, (strip a0), (strip a1), t8_0, (strip t8_0), t10_1, t11_2, t12_3, (strip t12_3), t14_4, t15_5, t16_6, t17_7, (strip a1), t20_8, (strip t20_8), PV.undef, PV.undef, PV.undef, PV.undef, PV.undef, PV.undef, PV.undef, PV.undef, PV.undef, PV.undef, PV.undef, PV.undef, t34_48, (strip t34_48), t35_49, t36_50, t37_51, t38_52, (strip t39_55), t40_53, t41_54, t42_56, (strip t43_57), t44_58, t45_59, PV.undef, PV.undef, PV.undef, PV.undef, PV.undef, PV.undef, PV.undef, PV.undef, PV.undef, PV.undef, PV.undef, PV.undef, PV.undef, PV.undef, PV.undef, PV.undef, PV.undef, PV.undef, PV.undef, PV.undef, PV.undef, PV.undef, PV.undef, PV.undef, PV.undef]) <|
 M.bind (noPan (M.pure (strip a0))) fun t35_73 =>
 M.bind (noPan (M.pure (strip a0))) fun t36_74 =>
 M.bind (noPan (nc P t36_74)) fun t37_75 =>
 M.bind (noPan (fa 0 t37_75)) fun t38_76 =>
 M.bind (noPan (M.pure (strip a2))) fun t40_77 =>
 M.bind (noPan (cv (.int .i64) true t40_77)) fun t41_78 =>
 M.bind (noPan (ld none true t38_76)) fun t39_79 =>
 M.bind (noPan (C k_leb_PutS [(strip t41_78)])) fun t42_80 =>
 M.bind (noPan (ap true 1 1 t39_79 t42_80)) fun t43_81 =>
 M.bind (noPan (nc P t35_73)) fun t44_82 =>
 M.bind (noPan (fa 0 t44_82)) fun t45_83 =>
 M.bind (noPan (st 1 true t45_83 t43_81)) fun _ =>
 M.pure (.tup []))
 (M.bind (bi .eql .none (strip a1) (.int .i64 11)) fun t47_85 =>
 condM t47_85
 (chk
 (M.bind (noPan (M.pure (strip a0))) fun t48_98 =>
 M.bind (noPan (M.pure (strip a0))) fun t49_99 =>
 M.bind (noPan (nc P t49_99)) fun t50_100 =>
 M.bind (noPan (fa 0 t50_100)) fun t51_101 =>
 M.bind (noPan (M.pure (strip a2))) fun t53_102 =>
 M.bind (noPan (cv (.int .u32) true t53_102)) fun t54_103 =>
 M.bind (noPan (C k_leb_PutF32 [(strip t54_103)])) fun t55_104 =>
 M.bind (noPan (ld none true t51_101)) fun t52_105 =>
 M.bind (noPan (ap true 1 1 t52_105 t55_104)) fun t56_106 =>
 M.bind (noPan (nc P t48_98)) fun t57_107 =>
 M.bind (noPan (fa 0 t57_107)) fun t58_108 =>
 M.bind (noPan (st 1 true t58_108 t56_106)) fun _ =>
 M.pure [a0, a1, a2, PV.undef, PV.undef, PV.undef, (strip a0), (strip a1), t8_0, (strip t8_0), t10_1, t11_2, t12_3, (strip t12_3), t14_4, t15_5, t16_6, t17_7, (strip a1), t20_8, (strip t20_8), PV.undef, PV.undef, PV.undef, PV.undef, PV.undef, PV.undef, PV.undef, PV.undef, PV.undef, PV.undef, PV.undef, PV.undef, t34_48, (strip t34_48), PV.undef, PV.undef, PV.undef, PV.undef, PV.undef, PV.undef, PV.undef, PV.undef, PV.undef, PV.undef, PV.undef, t47_85, (strip t47_85), t48_98, t49_99, t50_100, t51_101, (strip t52_105), t53_102, t54_103, t55_104, (strip t56_106), t57_107, t58_108, PV.undef, PV.undef, PV.undef, PV.undef, PV.undef, PV.undef, PV.undef, PV.undef, PV.undef, PV.undef, PV.undef, PV.undef])
 (M.bind (noPan (M.pure (strip a0))) fun t48_86 =>
 M.bind (noPan (M.pure (strip a0))) fun t49_87 =>
 M.bind (noPan (nc P t49_87)) fun t50_88 =>
 M.bind (noPan (fa 0 t50_88)) fun t51_89 =>
 M.bind (noPan (M.pure (strip a2))) fun t53_90 =>
 M.bind (noPan (cv (.int .u32) true t53_90)) fun t54_91 =>
 M.bind (noPan (ld none true t51_89)) fun t52_92 =>
 M.bind (noPan (C k_leb_PutF32 [(strip t54_91)])) fun t55_93 =>
 M.bind (noPan (ap true 1 1 t52_92 t55_93)) fun t56_94 =>
 M.bind (noPan (nc P t48_86)) fun t57_95 =>
 M.bind (noPan (fa 0 t57_95)) fun t58_96 =>
 M.bind (noPan (st 1 true t58_96 t56_94)) fun _ =>
 M.pure [a0, a1, a2, PV.undef, PV.undef, PV.undef, (strip a0), (strip a1), t8_0, (strip t8_0), t10_1, t11_2, t12_3, (strip t12_3), t14_4, t15_5, t16_6, t17_7, (strip a1), t20_8, (strip t20_8), PV.undef, PV.undef, PV.undef, PV.undef, PV.undef, PV.undef, PV.undef, PV.undef, PV.undef, PV.undef, PV.undef, PV.undef, t34_48, (strip t34_48), PV.undef, PV.undef, PV.undef, PV.undef, PV.undef, PV.undef, PV.undef, PV.undef, PV.undef, PV.undef, PV.undef, t47_85, (strip t47_85), t48_86, t49_87, t50_88, t51_89, (strip t52_92), t53_90, t54_91, t55_93, (strip t56_94), t57_95, t58_96, PV.undef, PV.undef, PV.undef, PV.undef, PV.undef, PV.undef, PV.undef, PV.undef, PV.undef, PV.undef, PV.undef, PV.undef]) <|
 M.bind (noPan (M.pure (strip a0))) fun t48_110 =>
 M.bind (noPan (M.pure (strip a0))) fun t49_111 =>
 M.bind (noPan (nc P t49_111)) fun t50_112 =>
 M.bind (noPan (fa 0 t50_112)) fun t51_113 =>
 M.bind (noPan (M.pure (strip a2))) fun t53_114 =>
 M.bind (noPan (cv (.int .u32) true t53_114)) fun t54_115 =>
 M.bind (noPan (ld none true t51_113)) fun t52_116 =>
 M.bind (noPan (C k_leb_PutF32 [(strip t54_115)])) fun t55_117 =>
 M.bind (noPan (ap true 1 1 t52_116 t55_117)) fun t56_118 =>
 M.bind (noPan (nc P t48_110)) fun t57_119 =>
 M.bind (noPan (fa 0 t57_119)) fun t58_120 =>
 M.bind (noPan (st 1 true t58_120 t56_118)) fun _ =>
 M.pure (.tup []))
 (M.bind (bi .eql .none (strip a1) (.int .i64 12)) fun t60_122 =>
 condM t60_122
 (chk
 (M.bind (noPan (M.pure (strip a0))) fun t61_134 =>
 M.bind (noPan (M.pure (strip a0))) fun t62_135 =>
 M.bind (noPan (nc P t62_135)) fun t63_136 =>
 M.bind (noPan (fa 0 t63_136)) fun t64_137 =>
 M.bind (noPan (M.pure (strip a2))) fun t66_138 =>
 M.bind (noPan (C k_leb_PutF64 [(strip t66_138)])) fun t67_139 =>
 M.bind (noPan (ld none true t64_137)) fun t65_140 =>
 M.bind (noPan (ap true 1 1 t65_140 t67_139)) fun t68_141 =>
 M.bind (noPan (nc P t61_134)) fun t69_142 =>
 M.bind (noPan (fa 0 t69_142)) fun t70_143 =>
 M.bind (noPan (st 1 true t70_143 t68_141)) fun _ =>
 M.pure [a0, a1, a2, PV.undef, PV.undef, PV.undef, (strip a0), (strip a1), t8_0, (strip t8_0), t10_1, t11_2, t12_3, (strip t12_3), t14_4, t15_5, t16_6, t17_7, (strip a1), t20_8, (strip t20_8), PV.undef, PV.undef, PV.undef, PV.undef, PV.undef, PV.undef, PV.undef, PV.undef, PV.undef, PV.undef, PV.undef, PV.undef, t34_48, (strip t34_48), PV.undef, PV.undef, PV.undef, PV.undef, PV.undef, PV.undef, PV.undef, PV.undef, PV.undef, PV.undef, PV.undef, t47_85, (strip t47_85), PV.undef, PV.undef, PV.undef, PV.undef, PV.undef, PV.undef, PV.undef, PV.undef, PV.undef, PV.undef, PV.undef, t60_122, (strip t60_122), t61_134, t62_135, t63_136, t64_137, (strip t65_140), t66_138, t67_139, (strip t68_141), t69_142, t70_143])
 (M.bind (noPan (M.pure (strip a0))) fun t61_123 =>
 M.bind (noPan (M.pure (strip a0))) fun t62_124 =>
 M.bind (noPan (nc P t62_124)) fun t63_125 =>
 M.bind (noPan (fa 0 t63_125)) fun t64_126 =>
 M.bind (noPan (M.pure (strip a2))) fun t66_127 =>
 M.bind (noPan (ld none true t64_126)) fun t65_128 =>
 M.bind (noPan (C k_leb_PutF64 [(strip t66_127)])) fun t67_129 =>
 M.bind (noPan (ap true 1 1 t65_128 t67_129)) fun t68_130 =>
 M.bind (noPan (nc P t61_123)) fun t69_131 =>
 M.bind (noPan (fa 0 t69_131)) fun t70_132 =>
 M.bind (noPan (st 1 true t70_132 t68_130)) fun _ =>
 M.pure [a0, a1, a2, PV.undef, PV.undef, PV.undef, (strip a0), (strip a1), t8_0, (strip t8_0), t10_1, t11_2, t12_3, (strip t12_3), t14_4, t15_5, t16_6, t17_7, (strip a1), t20_8, (strip t20_8), PV.undef, PV.undef, PV.undef, PV.undef, PV.undef, PV.undef, PV.undef, PV.undef, PV.undef, PV.undef, PV.undef, PV.undef, t34_48, (strip t34_48), PV.undef, PV.undef, PV.undef, PV.undef, PV.undef, PV.undef, PV.undef, PV.undef, PV.undef, PV.undef, PV.undef, t47_85, (strip t47_85), PV.undef, PV.undef, PV.undef, PV.undef, PV.undef, PV.undef, PV.undef, PV.undef, PV.undef, PV.undef, PV.undef, t60_122, (strip t60_122), t61_123, t62_124, t63_125, t64_126, (strip t65_128), t66_127, t67_129, (strip t68_130), t69_131, t70_132]) <|
 M.bind (noPan (M.pure (strip a0))) fun t61_145 =>
 M.bind (noPan (M.pure (strip a0))) fun t62_146 =>
 M.bind (noPan (nc P t62_146)) fun t63_147 =>
 M.bind (noPan (fa 0 t63_147)) fun t64_148 =>
 M.bind (noPan (M.pure (strip a2))) fun t66_149 =>
 M.bind (noPan (ld none true t64_148)) fun t65_150 =>
 M.bind (noPan (C k_leb_PutF64 [(strip t66_149)])) fun t67_151 =>
 M.bind (noPan (ap true 1 1 t65_150 t67_151)) fun t68_152 =>
 M.bind (noPan (nc P t61_145)) fun t69_153 =>
 M.bind (noPan (fa 0 t69_153)) fun t70_154 =>
 M.bind (noPan (st 1 true t70_154 t68_152)) fun _ =>
 M.pure (.tup []))
 (M.pure (.tup [])))))) := by
 rw [C, callW_eq _ _ rfl]; kernel_rfl
theorem ratchetref09_writing_opcode_eq (a0 a1 : PV) : C k_ratchetref09_writing_opcode [a0, a1] =
 trunc (M.bind (bi .geq .none (strip a1) (.int .i64 256)) fun t5_0 =>
 condM t5_0
 (M.bind (nc P (strip a0)) fun t8_1 =>
 M.bind (fa 0 t8_1) fun t9_2 =>
 M.bind (ld none true t9_2) fun t10_3 =>
 M.bind (bi .quo .none (strip a1) (.int .i64 256)) fun t12_4 =>
 M.bind (cv (.int .u8) true t12_4) fun t13_5 =>
 M.bind (bs true none [t13_5]) fun t14_6 =>
 M.bind (ap true 1 1 t10_3 t14_6) fun t15_7 =>
 M.bind (nc P (strip a0)) fun t16_8 =>
 M.bind (fa 0 t16_8) fun t17_9 =>
 M.bind (st 1 true t17_9 t15_7) fun _ =>
 M.bind (bi .rem .none (strip a1) (.int .i64 256)) fun t20_11 =>
 M.bind (cv (.int .u64) true t20_11) fun t21_12 =>
 M.bind (C k_ratchetref09_writing_u [(strip (strip a0)), (strip t21_12)]) fun t22_13 =>
 M.pure (.tup []))
 (M.bind (nc P (strip a0)) fun t25_14 =>
 M.bind (fa 0 t25_14) fun t26_15 =>
 M.bind (ld none true t26_15) fun t27_16 =>
 M.bind (cv (.int .u8) true (strip a1)) fun t29_17 =>
 M.bind (bs true none [t29_17]) fun t30_18 =>
 M.bind (ap true 1 1 t27_16 t30_18) fun t31_19 =>
 M.bind (nc P (strip a0)) fun t32_20 =>
 M.bind (fa 0 t32_20) fun t33_21 =>
 M.bind (st 1 true t33_21 t31_19) fun _ =>
 M.pure (.tup []))) := by
 rw [C, callW_eq _ _ rfl]; kernel_rfl
noncomputable def p_ratchetref09_writing_block_111 (v0 v4 : PV) : M PV := atP P X k_ratchetref09_writing_block [1, 1, 1] (mkEnv 25 0 [(0, v0), (4, v4)])
theorem p_ratchetref09_writing_block_111_eq (v0 v4 : PV) : p_ratchetref09_writing_block_111 v0 v4 =
 M.bind (nc P (strip v0)) fun t18_0 =>
 M.bind (fa 0 t18_0) fun t19_1 =>
 M.bind (ld none true t19_1) fun t20_2 =>
 M.bind (ap true 1 1 t20_2 (strip v4)) fun t22_3 =>
 M.bind (nc P (strip v0)) fun t23_4 =>
 M.bind (fa 0 t23_4) fun t24_5 =>
 M.bind (st 1 true t24_5 t22_3) fun _ =>
 M.pure (.tup []) :=
 (atP_step P X _ _ _).trans (by kernel_rfl)
theorem ratchetref09_writing_block_eq (a0 a1 : PV) : C k_ratchetref09_writing_block [a0, a1] =
 trunc (M.bind (bx 4 a1) fun t3_0 =>
 M.bind (ld (some 4) false t3_0) fun t7_1 =>
 M.bind (C k_ratchetref08_PutBlockType [(strip t7_1)]) fun t8_2 =>
 M.bind (ex 0 (strip t8_2)) fun t9_3 =>
 M.bind (ex 1 (tupDrop 0 (strip t8_2))) fun t10_4 =>
 M.bind (bi .neq .none (strip t10_4) (.int .i64 0)) fun t12_5 =>
 condM t12_5
 (M.bind (nc P (strip a0)) fun t14_6 =>
 M.bind (fa 1 t14_6) fun t15_7 =>
 M.bind (st 1 false t15_7 (.bool true)) fun _ =>
 p_ratchetref09_writing_block_111 a0 t9_3)
 (p_ratchetref09_writing_block_111 a0 t9_3)) := by
 rw [C, callW_eq _ _ rfl]; kernel_rfl
noncomputable def p_ratchetref09_writing_clauses_1 (v0 v1 : PV) : M PV := atP P X k_ratchetref09_writing_clauses [1] (mkEnv 92 0 [(0, v0), (1, v1)])
noncomputable def p_ratchetref09_writing_clauses_1110 (v0 v1 v4 : PV) : M PV := atP P X k_ratchetref09_writing_clauses [1, 1, 1, 0] (mkEnv 92 0 [(0, v0), (1, v1), (4, v4)])
noncomputable def p_ratchetref09_writing_clauses_111001001 (v0 v1 v4 : PV) : M PV := atP P X k_ratchetref09_writing_clauses [1, 1, 1, 0, 0, 1, 0, 0, 1] (mkEnv 92 0 [(0, v0), (1, v1), (4, v4)])
noncomputable def p_ratchetref09_writing_clauses_11100100111 (v0 v1 v4 : PV) : M PV := atP P X k_ratchetref09_writing_clauses [1, 1, 1, 0, 0, 1, 0, 0, 1, 1, 1] (mkEnv 92 0 [(0, v0), (1, v1), (4, v4)])
theorem p_ratchetref09_writing_clauses_1_eq (v0 v1 : PV) : p_ratchetref09_writing_clauses_1 v0 v1 =
 M.bind (lnL (strip v1)) fun t13_0 =>
 M.bind (cv (.int .u64) true t13_0) fun t14_1 =>
 M.bind (C k_ratchetref09_writing_u [(strip (strip v0)), (strip t14_1)]) fun t15_2 =>
 p_ratchetref09_writing_clauses_1110 v0 v1 (.int .i64 0) :=
 (atP_step P X _ _ _).trans (by kernel_rfl)
theorem p_ratchetref09_writing_clauses_1110_eq (v0 v1 v4 : PV) : p_ratchetref09_writing_clauses_1110 v0 v1 v4 =
 M.bind (lnL (strip v1)) fun t18_0 =>
 M.bind (bi .lss .none (strip v4) t18_0) fun t19_1 =>
 condM t19_1
 (M.bind (iaS 3 (strip v1) (strip v4)) fun t24_2 =>
 M.bind (fa 0 t24_2) fun t25_3 =>
 M.bind (ld none false t25_3) fun t26_4 =>
 M.bind (bi .lss .none t26_4 (.int .i64 0)) fun t27_5 =>
 M.bind (gd (strip t27_5) false (M.pure (strip v1))) fun t29_6 =>
 M.bind (gd (strip t27_5) false (M.pure (strip v4))) fun t30_7 =>
 M.bind (gd (strip t27_5) false (iaS 3 t29_6 t30_7)) fun t31_8 =>
 M.bind (gd (strip t27_5) false (fa 0 t31_8)) fun t32_9 =>
 M.bind (gd (strip t27_5) false (ld none false t32_9)) fun t33_10 =>
 M.bind (gd (strip t27_5) false (bi .gtr .none t33_10 (.int .i64 3))) fun t34_11 =>
 M.bind (pick (strip t27_5) (.bool true) t34_11) fun t35_12 =>
 M.bind (gd (strip t35_12) false (M.pure (strip v1))) fun t37_13 =>
 M.bind (gd (strip t35_12) false (M.pure (strip v4))) fun t38_14 =>
 M.bind (gd (strip t35_12) false (iaS 3 t37_13 t38_14)) fun t39_15 =>
 M.bind (gd (strip t35_12) false (fa 0 t39_15)) fun t40_16 =>
 M.bind (gd (strip t35_12) false (ld none false t40_16)) fun t41_17 =>
 M.bind (gd (strip t35_12) false (bi .gtr .none t41_17 (.int .i64 1))) fun t42_18 =>
 M.bind (gd (strip t35_12) false (M.pure (strip t42_18))) fun t43_19 =>
 M.bind (gd t43_19 true (M.pure (strip v1))) fun t44_20 =>
 M.bind (gd t43_19 true (M.pure (strip v4))) fun t45_21 =>
 M.bind (gd t43_19 true (iaS 3 t44_20 t45_21)) fun t46_22 =>
 M.bind (gd t43_19 true (fa 1 t46_22)) fun t47_23 =>
 M.bind (gd t43_19 true (ld none false t47_23)) fun t48_24 =>
 M.bind (gd t43_19 true (bi .neq .none t48_24 (.int .u32 0))) fun t49_25 =>
 M.bind (gd (strip t35_12) false (pick t43_19 t49_25 (.bool false))) fun t50_26 =>
 M.bind (pick (strip t35_12) (.bool true) t50_26) fun t51_27 =>
 condM t51_27
 (M.bind (nc P (strip v0)) fun t53_28 =>
 M.bind (fa 1 t53_28) fun t54_29 =>
 M.bind (st 1 false t54_29 (.bool true)) fun _ =>
 p_ratchetref09_writing_clauses_111001001 v0 v1 v4)
 (p_ratchetref09_writing_clauses_111001001 v0 v1 v4))
 (M.pure (.tup [])) :=
 (atP_step P X _ _ _).trans (by kernel_rfl)
theorem p_ratchetref09_writing_clauses_111001001_eq (v0 v1 v4 : PV) : p_ratchetref09_writing_clauses_111001001 v0 v1 v4 =
 ( chk
 (M.bind (noPan (M.pure (strip v0))) fun t55_16 =>
 M.bind (noPan (M.pure (strip v0))) fun t56_17 =>
 M.bind (noPan (nc P t56_17)) fun t57_18 =>
 M.bind (noPan (fa 0 t57_18)) fun t58_19 =>
 M.bind (noPan (M.pure (strip v1))) fun t60_20 =>
 M.bind (noPan (M.pure (strip v4))) fun t61_21 =>
 M.bind (noPan (iaS 3 t60_20 t61_21)) fun t62_22 =>
 M.bind (noPan (fa 0 t62_22)) fun t63_23 =>
 M.bind (noPan (ld none false t63_23)) fun t64_24 =>
 M.bind (noPan (cv (.int .u8) true t64_24)) fun t65_25 =>
 M.bind (noPan (bs true none [t65_25])) fun t66_26 =>
 M.bind (noPan (ld none true t58_19)) fun t59_27 =>
 M.bind (noPan (ap true 1 1 t59_27 t66_26)) fun t67_28 =>
 M.bind (noPan (nc P t55_16)) fun t68_29 =>
 M.bind (noPan (fa 0 t68_29)) fun t69_30 =>
 M.bind (noPan (st 1 true t69_30 t67_28)) fun _ =>
 M.pure [v0, v1, PV.undef, PV.undef, v4, PV.undef, PV.undef, PV.undef, PV.undef, PV.undef, PV.undef, PV.undef, PV.undef, PV.undef, PV.undef, PV.undef, PV.undef, PV.undef, PV.undef, PV.undef, PV.undef, PV.undef, PV.undef, PV.undef, PV.undef, PV.undef, PV.undef, PV.undef, PV.undef, PV.undef, PV.undef, PV.undef, PV.undef, PV.undef, PV.undef, PV.undef, PV.undef, PV.undef, PV.undef, PV.undef, PV.undef, PV.undef, PV.undef, PV.undef, PV.undef, PV.undef, PV.undef, PV.undef, PV.undef, PV.undef, PV.undef, PV.undef, PV.undef, PV.undef, PV.undef, t55_16, t56_17, t57_18, t58_19, (strip t59_27), t60_20, t61_21, t62_22, t63_23, t64_24, t65_25, t66_26, (strip t67_28), t68_29, t69_30, PV.undef, PV.undef, PV.undef, PV.undef, PV.undef, PV.undef, PV.undef, PV.undef, PV.undef, PV.undef, PV.undef, PV.undef, PV.undef, PV.undef, PV.undef, PV.undef, PV.undef, PV.undef, PV.undef, PV.undef, PV.undef, PV.undef])
 (M.bind (noPan (M.pure (strip v0))) fun t55_0 =>
 M.bind (noPan (M.pure (strip v0))) fun t56_1 =>
 M.bind (noPan (nc P t56_1)) fun t57_2 =>
 M.bind (noPan (fa 0 t57_2)) fun t58_3 =>
 M.bind (noPan (M.pure (strip v1))) fun t60_4 =>
 M.bind (noPan (M.pure (strip v4))) fun t61_5 =>
 M.bind (noPan (iaS 3 t60_4 t61_5)) fun t62_6 =>
 M.bind (noPan (fa 0 t62_6)) fun t63_7 =>
 M.bind (noPan (ld none true t58_3)) fun t59_8 =>
 M.bind (noPan (ld none false t63_7)) fun t64_9 =>
 M.bind (noPan (cv (.int .u8) true t64_9)) fun t65_10 =>
 M.bind (noPan (bs true none [t65_10])) fun t66_11 =>
 M.bind (noPan (ap true 1 1 t59_8 t66_11)) fun t67_12 =>
 M.bind (noPan (nc P t55_0)) fun t68_13 =>
 M.bind (noPan (fa 0 t68_13)) fun t69_14 =>
 M.bind (noPan (st 1 true t69_14 t67_12)) fun _ =>
 M.pure [v0, v1, PV.undef, PV.undef, v4, PV.undef, PV.undef, PV.undef, PV.undef, PV.undef, PV.undef, PV.undef, PV.undef, PV.undef, PV.undef, PV.undef, PV.undef, PV.undef, PV.undef, PV.undef, PV.undef, PV.undef, PV.undef, PV.undef, PV.undef, PV.undef, PV.undef, PV.undef, PV.undef, PV.undef, PV.undef, PV.undef, PV.undef, PV.undef, PV.undef, PV.undef, PV.undef, PV.undef, PV.undef, PV.undef, PV.undef, PV.undef, PV.undef, PV.undef, PV.undef, PV.undef, PV.undef, PV.undef, PV.undef, PV.undef, PV.undef, PV.undef, PV.undef, PV.undef, PV.undef, t55_0, t56_1, t57_2, t58_3, (strip t59_8), t60_4, t61_5, t62_6, t63_7, t64_9, t65_10, t66_11, (strip t67_12), t68_13, t69_14, PV.undef, PV.undef, PV.undef, PV.undef, PV.undef, PV.undef, PV.undef, PV.undef, PV.undef, PV.undef, PV.undef, PV.undef, PV.undef, PV.undef, PV.undef, PV.undef, PV.undef, PV.undef, PV.undef, PV.undef, PV.undef, PV.undef]) <|
 M.bind (noPan (M.pure (strip v0))) fun t55_32 =>
 M.bind (noPan (M.pure (strip v0))) fun t56_33 =>
 M.bind (noPan (nc P t56_33)) fun t57_34 =>
 M.bind (noPan (fa 0 t57_34)) fun t58_35 =>
 M.bind (noPan (M.pure (strip v1))) fun t60_36 =>
 M.bind (noPan (M.pure (strip v4))) fun t61_37 =>
 M.bind (noPan (iaS 3 t60_36 t61_37)) fun t62_38 =>
 M.bind (noPan (fa 0 t62_38)) fun t63_39 =>
 M.bind (noPan (ld none true t58_35)) fun t59_40 =>
 M.bind (noPan (ld none false t63_39)) fun t64_41 =>
 M.bind (noPan (cv (.int .u8) true t64_41)) fun t65_42 =>
 M.bind (noPan (bs true none [t65_42])) fun t66_43 =>
 M.bind (noPan (ap true 1 1 t59_40 t66_43)) fun t67_44 =>
 M.bind (noPan (nc P t55_32)) fun t68_45 =>
 M.bind (noPan (fa 0 t68_45)) fun t69_46 =>
 M.bind (noPan (st 1 true t69_46 t67_44)) fun _ =>
 M.bind (iaS 3 (strip v1) (strip v4)) fun t72_48 =>
 M.bind (fa 0 t72_48) fun t73_49 =>
 M.bind (ld none false t73_49) fun t74_50 =>
 M.bind (bi .lss .none t74_50 (.int .i64 2)) fun t75_51 =>
 condM t75_51
 (M.bind (iaS 3 (strip v1) (strip v4)) fun t79_52 =>
 M.bind (fa 1 t79_52) fun t80_53 =>
 M.bind (ld none false t80_53) fun t81_54 =>
 M.bind (cv (.int .u64) true t81_54) fun t82_55 =>
 M.bind (C k_ratchetref09_writing_u [(strip (strip v0)), (strip t82_55)]) fun t83_56 =>
 p_ratchetref09_writing_clauses_11100100111 v0 v1 v4)
 (p_ratchetref09_writing_clauses_11100100111 v0 v1 v4)) :=
 (atP_step P X _ _ _).trans (by kernel_rfl)
theorem p_ratchetref09_writing_clauses_11100100111_eq (v0 v1 v4 : PV) : p_ratchetref09_writing_clauses_11100100111 v0 v1 v4 =
 M.bind (iaS 3 (strip v1) (strip v4)) fun t87_0 =>
 M.bind (fa 2 t87_0) fun t88_1 =>
 M.bind (ld none false t88_1) fun t89_2 =>
 M.bind (cv (.int .u64) true t89_2) fun t90_3 =>
 M.bind (C k_ratchetref09_writing_u [(strip (strip v0)), (strip t90_3)]) fun t91_4 =>
 M.bind (bi .add .none (strip v4) (.int .i64 1)) fun t21_5 =>
 p_ratchetref09_writing_clauses_1110 v0 v1 t21_5 :=
 (atP_step P X _ _ _).trans (by kernel_rfl)
theorem ratchetref09_writing_clauses_eq (a0 a1 : PV) : C k_ratchetref09_writing_clauses [a0, a1] =
 trunc (M.bind (lnL (strip a1)) fun t6_0 =>
 M.bind (bi .gtr .none t6_0 (.int .i64 65536)) fun t7_1 =>
 condM t7_1
 (M.bind (nc P (strip a0)) fun t9_2 =>
 M.bind (fa 1 t9_2) fun t10_3 =>
 M.bind (st 1 false t10_3 (.bool true)) fun _ =>
 p_ratchetref09_writing_clauses_1 a0 a1)
 (p_ratchetref09_writing_clauses_1 a0 a1)) := by
 rw [C, callW_eq _ _ rfl]; kernel_rfl
theorem ratchetref09_writing_u_eq (a0 a1 : PV) : C k_ratchetref09_writing_u [a0, a1] =
 trunc (chk
 (M.bind (noPan (M.pure (strip a0))) fun t4_11 =>
 M.bind (noPan (M.pure (strip a0))) fun t5_12 =>
 M.bind (noPan (nc P t5_12)) fun t6_13 =>
 M.bind (noPan (fa 0 t6_13)) fun t7_14 =>
 M.bind (noPan (M.pure (strip a1))) fun t9_15 =>
 M.bind (noPan (C k_ratchetref01_PutU [(strip t9_15)])) fun t10_16 =>
 M.bind (noPan (ld none true t7_14)) fun t8_17 =>
 M.bind (noPan (ap true 1 1 t8_17 t10_16)) fun t11_18 =>
 M.bind (noPan (nc P t4_11)) fun t12_19 =>
 M.bind (noPan (fa 0 t12_19)) fun t13_20 =>
 M.bind (noPan (st 1 true t13_20 t11_18)) fun _ =>
 M.pure [a0, a1, .undef, .undef, t4_11, t5_12, t6_13, t7_14, (strip t8_17), t9_15, t10_16, (strip t11_18), t12_19, t13_20])
 (M.bind (noPan (M.pure (strip a0))) fun t4_0 =>
 M.bind (noPan (M.pure (strip a0))) fun t5_1 =>
 M.bind (noPan (nc P t5_1)) fun t6_2 =>
 M.bind (noPan (fa 0 t6_2)) fun t7_3 =>
 M.bind (noPan (M.pure (strip a1))) fun t9_4 =>
 M.bind (noPan (ld none true t7_3)) fun t8_5 =>
 M.bind (noPan (C k_ratchetref01_PutU [(strip t9_4)])) fun t10_6 =>
 M.bind (noPan (ap true 1 1 t8_5 t10_6)) fun t11_7 =>
 M.bind (noPan (nc P t4_0)) fun t12_8 =>
 M.bind (noPan (fa 0 t12_8)) fun t13_9 =>
 M.bind (noPan (st 1 true t13_9 t11_7)) fun _ =>
 M.pure [a0, a1, .undef, .undef, t4_0, t5_1, t6_2, t7_3, (strip t8_5), t9_4, t10_6, (strip t11_7), t12_8, t13_9]) <|
 M.bind (noPan (M.pure (strip a0))) fun t4_22 =>
 M.bind (noPan (M.pure (strip a0))) fun t5_23 =>
 M.bind (noPan (nc P t5_23)) fun t6_24 =>
 M.bind (noPan (fa 0 t6_24)) fun t7_25 =>
 M.bind (noPan (M.pure (strip a1))) fun t9_26 =>
 M.bind (noPan (ld none true t7_25)) fun t8_27 =>
 M.bind (noPan (C k_ratchetref01_PutU [(strip t9_26)])) fun t10_28 =>
 M.bind (noPan (ap true 1 1 t8_27 t10_28)) fun t11_29 =>
 M.bind (noPan (nc P t4_22)) fun t12_30 =>
 M.bind (noPan (fa 0 t12_30)) fun t13_31 =>
 M.bind (noPan (st 1 true t13_31 t11_29)) fun _ =>
 M.pure (.tup [])) := by
 rw [C, callW_eq _ _ rfl]; kernel_rfl
noncomputable def p_ratchetref09_writing_val_111 (v0 v4 : PV) : M PV := atP P X k_ratchetref09_writing_val [1, 1, 1] (mkEnv 25 0 [(0, v0), (4, v4)])
theorem p_ratchetref09_writing_val_111_eq (v0 v4 : PV) : p_ratchetref09_writing_val_111 v0 v4 =
 M.bind (nc P (strip v0)) fun t18_0 =>
 M.bind (fa 0 t18_0) fun t19_1 =>
 M.bind (ld none true t19_1) fun t20_2 =>
 M.bind (ap true 1 1 t20_2 (strip v4)) fun t22_3 =>
 M.bind (nc P (strip v0)) fun t23_4 =>
 M.bind (fa 0 t23_4) fun t24_5 =>
 M.bind (st 1 true t24_5 t22_3) fun _ =>
 M.pure (.tup []) :=
 (atP_step P X _ _ _).trans (by kernel_rfl)
theorem ratchetref09_writing_val_eq (a0 a1 : PV) : C k_ratchetref09_writing_val [a0, a1] =
 trunc (M.bind (bx 3 a1) fun t3_0 =>
 M.bind (ld (some 3) false t3_0) fun t7_1 =>
 M.bind (C k_ratchetref08_PutValType [(strip t7_1)]) fun t8_2 =>
 M.bind (ex 0 (strip t8_2)) fun t9_3 =>
 M.bind (ex 1 (tupDrop 0 (strip t8_2))) fun t10_4 =>
 M.bind (bi .neq .none (strip t10_4) (.int .i64 0)) fun t12_5 =>
 condM t12_5
 (M.bind (nc P (strip a0)) fun t14_6 =>
 M.bind (fa 1 t14_6) fun t15_7 =>
 M.bind (st 1 false t15_7 (.bool true)) fun _ =>
 p_ratchetref09_writing_val_111 a0 t9_3)
 (p_ratchetref09_writing_val_111 a0 t9_3)) := by
 rw [C, callW_eq _ _ rfl]; kernel_rfl
noncomputable def p_ratchetref09_writing_mem_11 (v0 v3 : PV) : M PV := atP P X k_ratchetref09_writing_mem [1, 1] (mkEnv 33 0 [(0, v0), (3, v3)])
noncomputable def p_ratchetref09_writing_mem_111 (v0 v3 : PV) : M PV := atP P X k_ratchetref09_writing_mem [1, 1, 1] (mkEnv 33 0 [(0, v0), (3, v3)])
theorem p_ratchetref09_writing_mem_11_eq (v0 v3 : PV) : p_ratchetref09_writing_mem_11 v0 v3 =
 M.bind (fa 1 v3) fun t10_0 =>
 M.bind (ld none false t10_0) fun t11_1 =>
 M.bind (bi .eql .none t11_1 (.int .u32 0)) fun t12_2 =>
 condM t12_2
 (M.bind (fa 0 v3) fun t14_3 =>
 M.bind (ld none false t14_3) fun t15_4 =>
 M.bind (cv (.int .u64) true t15_4) fun t16_5 =>
 M.bind (C k_ratchetref09_writing_u [(strip (strip v0)), (strip t16_5)]) fun t17_6 =>
 p_ratchetref09_writing_mem_111 v0 v3)
 (M.bind (fa 0 v3) fun t19_7 =>
 M.bind (ld none false t19_7) fun t20_8 =>
 M.bind (cv (.int .u64) true t20_8) fun t21_9 =>
 M.bind (bi .add .none t21_9 (.int .u64 64)) fun t22_10 =>
 M.bind (C k_ratchetref09_writing_u [(strip (strip v0)), (strip t22_10)]) fun t23_11 =>
 M.bind (fa 1 v3) fun t25_12 =>
 M.bind (ld none false t25_12) fun t26_13 =>
 M.bind (cv (.int .u64) true t26_13) fun t27_14 =>
 M.bind (C k_ratchetref09_writing_u [(strip (strip v0)), (strip t27_14)]) fun t28_15 =>
 p_ratchetref09_writing_mem_111 v0 v3) :=
 (atP_step P X _ _ _).trans (by kernel_rfl)
theorem p_ratchetref09_writing_mem_111_eq (v0 v3 : PV) : p_ratchetref09_writing_mem_111 v0 v3 =
 M.bind (fa 2 v3) fun t30_0 =>
 M.bind (ld none false t30_0) fun t31_1 =>
 M.bind (C k_ratchetref09_writing_u [(strip (strip v0)), (strip t31_1)]) fun t32_2 =>
 M.pure (.tup []) :=
 (atP_step P X _ _ _).trans (by kernel_rfl)
theorem ratchetref09_writing_mem_eq (a0 a1 : PV) : C k_ratchetref09_writing_mem [a0, a1] =
 trunc (M.bind (bx 3 a1) fun t3_0 =>
 M.bind (fa 0 t3_0) fun t4_1 =>
 M.bind (ld none false t4_1) fun t5_2 =>
 M.bind (bi .geq .none t5_2 (.int .u32 64)) fun t6_3 =>
 condM t6_3
 (M.bind (nc P (strip a0)) fun t8_4 =>
 M.bind (fa 1 t8_4) fun t9_5 =>
 M.bind (st 1 false t9_5 (.bool true)) fun _ =>
 p_ratchetref09_writing_mem_11 a0 t3_0)
 (p_ratchetref09_writing_mem_11 a0 t3_0)) := by
 rw [C, callW_eq _ _ rfl]; kernel_rfl
noncomputable def p_ratchetref09_writing_casts_1101111101011 (v0 v3 v4 : PV) : M PV := atP P X k_ratchetref09_writing_casts [1, 1, 0, 1, 1, 1, 1, 1, 0, 1, 0, 1, 1] (mkEnv 117 0 [(0, v0), (3, v3), (4, v4)])
noncomputable def p_ratchetref09_writing_casts_11011111010111 (v0 v3 v4 : PV) : M PV := atP P X k_ratchetref09_writing_casts [1, 1, 0, 1, 1, 1, 1, 1, 0, 1, 0, 1, 1, 1] (mkEnv 117 0 [(0, v0), (3, v3), (4, v4)])
theorem p_ratchetref09_writing_casts_1101111101011_eq (v0 v3 v4 : PV) : p_ratchetref09_writing_casts_1101111101011 v0 v3 v4 =
 M.bind (fa 15 v3) fun t81_0 =>
 M.bind (ld none false t81_0) fun t82_1 =>
 M.bind (iaS 3 t82_1 (.int .i64 1)) fun t83_2 =>
 M.bind (fa 1 t83_2) fun t84_3 =>
 M.bind (ld none false t84_3) fun t85_4 =>
 condM t85_4
 (M.bind (bi .add .none (strip v4) (.int .u8 2)) fun t87_5 =>
 p_ratchetref09_writing_casts_11011111010111 v0 v3 t87_5)
 (p_ratchetref09_writing_casts_11011111010111 v0 v3 v4) :=
 (atP_step P X _ _ _).trans (by kernel_rfl)
theorem p_ratchetref09_writing_casts_11011111010111_eq (v0 v3 v4 : PV) : p_ratchetref09_writing_casts_11011111010111 v0 v3 v4 =
 M.bind (nc P (strip v0)) fun t90_0 =>
 M.bind (fa 0 t90_0) fun t91_1 =>
 M.bind (ld none true t91_1) fun t92_2 =>
 M.bind (bs true none [(strip v4)]) fun t94_3 =>
 M.bind (ap true 1 1 t92_2 t94_3) fun t95_4 =>
 M.bind (nc P (strip v0)) fun t96_5 =>
 M.bind (fa 0 t96_5) fun t97_6 =>
 M.bind (st 1 true t97_6 t95_4) fun _ =>
 M.bind (fa 1 v3) fun t99_8 =>
 M.bind (ld none false t99_8) fun t100_9 =>
 M.bind (cv (.int .u64) true t100_9) fun t101_10 =>
 M.bind (C k_ratchetref09_writing_u [(strip (strip v0)), (strip t101_10)]) fun t102_11 =>
 M.bind (fa 15 v3) fun t104_12 =>
 M.bind (ld none false t104_12) fun t105_13 =>
 M.bind (iaS 3 t105_13 (.int .i64 0)) fun t106_14 =>
 M.bind (fa 2 t106_14) fun t107_15 =>
 M.bind (ld none false t107_15) fun t108_16 =>
 M.bind (C k_ratchetref09_writing_heap [(strip (strip v0)), (strip t108_16)]) fun t109_17 =>
 M.bind (fa 15 v3) fun t111_18 =>
 M.bind (ld none false t111_18) fun t112_19 =>
 M.bind (iaS 3 t112_19 (.int .i64 1)) fun t113_20 =>
 M.bind (fa 2 t113_20) fun t114_21 =>
 M.bind (ld none false t114_21) fun t115_22 =>
 M.bind (C k_ratchetref09_writing_heap [(strip (strip v0)), (strip t115_22)]) fun t116_23 =>
 M.pure (.tup []) :=
 (atP_step P X _ _ _).trans (by kernel_rfl)
theorem ratchetref09_writing_casts_eq (a0 a1 : PV) : C k_ratchetref09_writing_casts [a0, a1] =
 trunc (M.bind (bx 17 a1) fun t3_0 =>
 M.bind (fa 0 t3_0) fun t5_1 =>
 M.bind (ld none false t5_1) fun t6_2 =>
 M.bind (C k_ratchetref09_Form [(strip t6_2)]) fun t7_3 =>
 M.bind (bi .eql .none t7_3 (.str ⟨#[104, 101, 97, 112]⟩)) fun t9_4 =>
 condM t9_4
 (M.bind (fa 15 t3_0) fun t11_5 =>
 M.bind (ld none false t11_5) fun t12_6 =>
 M.bind (C k_ratchetref09_writing_refs [(strip (strip a0)), (strip t12_6), (.int .i64 1)]) fun t13_7 =>
 condM t13_7
 (M.bind (nc P (strip a0)) fun t16_8 =>
 M.bind (fa 1 t16_8) fun t17_9 =>
 M.bind (ld none false t17_9) fun t18_10 =>
 M.bind (gd (strip t18_10) false (fa 15 t3_0)) fun t20_11 =>
 M.bind (gd (strip t18_10) false (ld none false t20_11)) fun t21_12 =>
 M.bind (gd (strip t18_10) false (iaS 3 t21_12 (.int .i64 0))) fun t22_13 =>
 M.bind (gd (strip t18_10) false (fa 1 t22_13)) fun t23_14 =>
 M.bind (gd (strip t18_10) false (ld none false t23_14)) fun t24_15 =>
 M.bind (gd (strip t18_10) false (un .not t24_15)) fun t25_16 =>
 M.bind (pick (strip t18_10) (.bool true) t25_16) fun t26_17 =>
 M.bind (nc P (strip a0)) fun t27_18 =>
 M.bind (fa 1 t27_18) fun t28_19 =>
 M.bind (st 1 true t28_19 t26_17) fun _ =>
 M.bind (fa 15 t3_0) fun t30_21 =>
 M.bind (ld none false t30_21) fun t31_22 =>
 M.bind (iaS 3 t31_22 (.int .i64 0)) fun t32_23 =>
 M.bind (fa 2 t32_23) fun t33_24 =>
 M.bind (ld none false t33_24) fun t34_25 =>
 M.bind (C k_ratchetref09_writing_heap [(strip (strip a0)), (strip t34_25)]) fun t35_26 =>
 M.pure (.tup []))
 (M.pure (.tup [])))
 (M.bind (bi .eql .none t7_3 (.str ⟨#[99, 97, 115, 116]⟩)) fun t37_27 =>
 condM t37_27
 (M.bind (fa 15 t3_0) fun t39_28 =>
 M.bind (ld none false t39_28) fun t40_29 =>
 M.bind (C k_ratchetref09_writing_refs [(strip (strip a0)), (strip t40_29), (.int .i64 1)]) fun t41_30 =>
 condM t41_30
 (M.bind (noPan (M.pure (strip a0))) fun t42_51 =>
 M.bind (noPan (M.pure (strip a0))) fun t43_52 =>
 M.bind (noPan (nc P t43_52)) fun t44_53 =>
 M.bind (noPan (fa 1 t44_53)) fun t45_54 =>
 M.bind (noPan (ld none false t45_54)) fun t46_55 =>
 M.bind (noPan (M.pure (strip t46_55))) fun t47_56 =>
 M.bind (noPan (gd t47_56 false (fa 15 t3_0))) fun t48_57 =>
 M.bind (noPan (gd t47_56 false (fa 0 t3_0))) fun t53_58 =>
 M.bind (noPan (gd t47_56 false (ld none false t48_57))) fun t49_59 =>
 M.bind (noPan (gd t47_56 false (iaS 3 t49_59 (.int .i64 0)))) fun t50_60 =>
 M.bind (noPan (gd t47_56 false (fa 1 t50_60))) fun t51_61 =>
 M.bind (noPan (gd t47_56 false (ld none false t51_61))) fun t52_62 =>
 M.bind (noPan (gd t47_56 false (ld none false t53_58))) fun t54_63 =>
 M.bind (noPan (gd t47_56 false (bi .rem .none t54_63 (.int .i64 2)))) fun t55_64 =>
 M.bind (noPan (gd t47_56 false (bi .eql .none t55_64 (.int .i64 1)))) fun t56_65 =>
 M.bind (noPan (gd t47_56 false (bi .neq .bool t52_62 t56_65))) fun t57_66 =>
 M.bind (noPan (pick t47_56 (.bool true) t57_66)) fun t58_67 =>
 M.bind (noPan (nc P t42_51)) fun t59_68 =>
 M.bind (noPan (fa 1 t59_68)) fun t60_69 =>
 M.bind (noPan (st 1 true t60_69 t58_67)) fun _ =>
 M.bind (fa 15 t3_0) fun t62_71 =>
 M.bind (ld none false t62_71) fun t63_72 =>
 M.bind (iaS 3 t63_72 (.int .i64 0)) fun t64_73 =>
 M.bind (fa 2 t64_73) fun t65_74 =>
 M.bind (ld none false t65_74) fun t66_75 =>
 M.bind (C k_ratchetref09_writing_heap [(strip (strip a0)), (strip t66_75)]) fun t67_76 =>
 M.pure (.tup []))
 (M.pure (.tup [])))
 (M.bind (bi .eql .none t7_3 (.str ⟨#[98, 114, 95, 99, 97, 115, 116]⟩)) fun t69_77 =>
 condM t69_77
 (M.bind (fa 15 t3_0) fun t71_78 =>
 M.bind (ld none false t71_78) fun t72_79 =>
 M.bind (C k_ratchetref09_writing_refs [(strip (strip a0)), (strip t72_79), (.int .i64 2)]) fun t73_80 =>
 condM t73_80
 (M.bind (fa 15 t3_0) fun t74_81 =>
 M.bind (ld none false t74_81) fun t75_82 =>
 M.bind (iaS 3 t75_82 (.int .i64 0)) fun t76_83 =>
 M.bind (fa 1 t76_83) fun t77_84 =>
 M.bind (ld none false t77_84) fun t78_85 =>
 condM t78_85
 (M.bind (bi .add .none (.int .u8 0) (.int .u8 1)) fun t80_86 =>
 p_ratchetref09_writing_casts_1101111101011 a0 t3_0 t80_86)
 (p_ratchetref09_writing_casts_1101111101011 a0 t3_0 (.int .u8 0)))
 (M.pure (.tup [])))
 (M.pure (.tup []))))) := by
 rw [C, callW_eq _ _ rfl]; kernel_rfl
end Go.Proofs.Ythidcpkcfoldmaa.Pi.Q
namespace Go.Proofs.Ythidcpkcfoldmaa.Pi.Q
open Go Go.Proofs.Ythidcpkcfoldmaa.Pi
set_option linter.unusedVariables false
set_option maxRecDepth 100000
theorem ratchetref09_writing_consts_eq (a0 a1 : PV) : C k_ratchetref09_writing_consts [a0, a1] =
 trunc (M.bind (bx 17 a1) fun t3_0 =>
 M.bind (fa 0 t3_0) fun t4_1 =>
 M.bind (ld none false t4_1) fun t5_2 =>
 M.bind (C k_ratchetref09_Form [(strip t5_2)]) fun t6_3 =>
 M.bind (bi .eql .none t6_3 (.str ⟨#[105, 51, 50]⟩)) fun t8_4 =>
 condM t8_4
 (M.bind (nc P (strip a0)) fun t11_5 =>
 M.bind (fa 1 t11_5) fun t12_6 =>
 M.bind (ld none false t12_6) fun t13_7 =>
 M.bind (gd (strip t13_7) false (fa 3 t3_0)) fun t15_8 =>
 M.bind (gd (strip t13_7) false (ld none false t15_8)) fun t16_9 =>
 M.bind (gd (strip t13_7) false (bi .geq .none t16_9 (.int .u64 4294967296))) fun t17_10 =>
 M.bind (pick (strip t13_7) (.bool true) t17_10) fun t18_11 =>
 M.bind (nc P (strip a0)) fun t19_12 =>
 M.bind (fa 1 t19_12) fun t20_13 =>
 M.bind (st 1 true t20_13 t18_11) fun _ =>
 chk
 (M.bind (noPan (M.pure (strip a0))) fun t21_30 =>
 M.bind (noPan (M.pure (strip a0))) fun t22_31 =>
 M.bind (noPan (nc P t22_31)) fun t23_32 =>
 M.bind (noPan (fa 0 t23_32)) fun t24_33 =>
 M.bind (noPan (fa 3 t3_0)) fun t26_34 =>
 M.bind (noPan (ld none false t26_34)) fun t27_35 =>
 M.bind (noPan (cv (.int .u32) true t27_35)) fun t28_36 =>
 M.bind (noPan (cv (.int .i32) true t28_36)) fun t29_37 =>
 M.bind (noPan (cv (.int .i64) true t29_37)) fun t30_38 =>
 M.bind (noPan (ld none true t24_33)) fun t25_39 =>
 M.bind (noPan (C k_ratchetref01_PutS [(strip t30_38)])) fun t31_40 =>
 M.bind (noPan (ap true 1 1 t25_39 t31_40)) fun t32_41 =>
 M.bind (noPan (nc P t21_30)) fun t33_42 =>
 M.bind (noPan (fa 0 t33_42)) fun t34_43 =>
 M.bind (noPan (st 1 true t34_43 t32_41)) fun _ =>
 M.pure [a0, a1, PV.undef, t3_0, t4_1, t5_2, t6_3, t8_4, (strip t8_4), (strip a0), (strip a0), t11_5, t12_6, t13_7, (strip t13_7), t15_8, t16_9, t17_10, (strip t18_11), t19_12, t20_13, t21_30, t22_31, t23_32, t24_33, (strip t25_39), t26_34, t27_35, t28_36, t29_37, t30_38, t31_40, (strip t32_41), t33_42, t34_43, PV.undef, PV.undef, PV.undef, PV.undef, PV.undef, PV.undef, PV.undef, PV.undef, PV.undef, PV.undef, PV.undef, PV.undef, PV.undef, PV.undef, PV.undef, PV.undef, PV.undef, PV.undef, PV.undef, PV.undef, PV.undef, PV.undef, PV.undef, PV.undef, PV.undef, PV.undef, PV.undef, PV.undef, PV.undef, PV.undef, PV.undef, PV.undef, PV.undef, PV.undef, PV.undef, PV.undef, PV.undef, PV.undef, PV.undef, PV.undef, PV.undef, PV.undef, PV.undef, PV.undef, PV.undef, PV.undef, PV.undef, PV.undef, PV.undef, PV.undef, PV.undef, PV.undef])
 (M.bind (noPan (M.pure (strip a0))) fun t21_15 =>
 M.bind (noPan (M.pure (strip a0))) fun t22_16 =>
 M.bind (noPan (nc P t22_16)) fun t23_17 =>
 M.bind (noPan (fa 0 t23_17)) fun t24_18 =>
 M.bind (noPan (fa 3 t3_0)) fun t26_19 =>
 M.bind (noPan (ld none true t24_18)) fun t25_20 =>
 M.bind (noPan (ld none false t26_19)) fun t27_21 =>
 M.bind (noPan (cv (.int .u32) true t27_21)) fun t28_22 =>
 M.bind (noPan (cv (.int .i32) true t28_22)) fun t29_23 =>
 M.bind (noPan (cv (.int .i64) true t29_23)) fun t30_24 =>
 M.bind (noPan (C k_ratchetref01_PutS [(strip t30_24)])) fun t31_25 =>
 M.bind (noPan (ap true 1 1 t25_20 t31_25)) fun t32_26 =>
 M.bind (noPan (nc P t21_15)) fun t33_27 =>
 M.bind (noPan (fa 0 t33_27)) fun t34_28 =>
 M.bind (noPan (st 1 true t34_28 t32_26)) fun _ =>
 M.pure [a0, a1, PV.undef, t3_0, t4_1, t5_2, t6_3, t8_4, (strip t8_4), (strip a0), (strip a0), t11_5, t12_6, t13_7, (strip t13_7), t15_8, t16_9, t17_10, (strip t18_11), t19_12, t20_13, t21_15, t22_16, t23_17, t24_18, (strip t25_20), t26_19, t27_21, t28_22, t29_23, t30_24, t31_25, (strip t32_26), t33_27, t34_28, PV.undef, PV.undef, PV.undef, PV.undef, PV.undef, PV.undef, PV.undef, PV.undef, PV.undef, PV.undef, PV.undef, PV.undef, PV.undef, PV.undef, PV.undef, PV.undef, PV.undef, PV.undef, PV.undef, PV.undef, PV.undef, PV.undef, PV.undef, PV.undef, PV.undef, PV.undef, PV.undef, PV.undef, PV.undef, PV.undef, PV.undef, PV.undef, PV.undef, PV.undef, PV.undef, PV.undef, PV.undef, PV.undef, PV.undef, PV.undef, PV.undef, PV.undef, PV.undef, PV.undef, PV.undef, PV.undef, PV.undef, PV.undef, PV.undef, PV.undef, PV.undef, PV.undef]) <|
 chk
 (M.bind (noPan (M.pure (strip a0))) fun t21_45 =>
 M.bind (noPan (M.pure (strip a0))) fun t22_46 =>
 M.bind (noPan (nc P t22_46)) fun t23_47 =>
 M.bind (noPan (fa 0 t23_47)) fun t24_48 =>
 M.bind (noPan (fa 3 t3_0)) fun t26_49 =>
 M.bind (noPan (ld none false t26_49)) fun t27_50 =>
 M.bind (noPan (cv (.int .u32) true t27_50)) fun t28_51 =>
 M.bind (noPan (cv (.int .i32) true t28_51)) fun t29_52 =>
 M.bind (noPan (cv (.int .i64) true t29_52)) fun t30_53 =>
 M.bind (noPan (C k_ratchetref01_PutS [(strip t30_53)])) fun t31_54 =>
 M.bind (noPan (ld none true t24_48)) fun t25_55 =>
 M.bind (noPan (ap true 1 1 t25_55 t31_54)) fun t32_56 =>
 M.bind (noPan (nc P t21_45)) fun t33_57 =>
 M.bind (noPan (fa 0 t33_57)) fun t34_58 =>
 M.bind (noPan (st 1 true t34_58 t32_56)) fun _ =>
 M.pure [a0, a1, PV.undef, t3_0, t4_1, t5_2, t6_3, t8_4, (strip t8_4), (strip a0), (strip a0), t11_5, t12_6, t13_7, (strip t13_7), t15_8, t16_9, t17_10, (strip t18_11), t19_12, t20_13, t21_45, t22_46, t23_47, t24_48, (strip t25_55), t26_49, t27_50, t28_51, t29_52, t30_53, t31_54, (strip t32_56), t33_57, t34_58, PV.undef, PV.undef, PV.undef, PV.undef, PV.undef, PV.undef, PV.undef, PV.undef, PV.undef, PV.undef, PV.undef, PV.undef, PV.undef, PV.undef, PV.undef, PV.undef, PV.undef, PV.undef, PV.undef, PV.undef, PV.undef, PV.undef, PV.undef, PV.undef, PV.undef, PV.undef, PV.undef, PV.undef, PV.undef, PV.undef, PV.undef, PV.undef, PV.undef, PV.undef, PV.undef, PV.undef, PV.undef, PV.undef, PV.undef, PV.undef, PV.undef, PV.undef, PV.undef, PV.undef, PV.undef, PV.undef, PV.undef, PV.undef, PV.undef, PV.undef, PV.undef, PV.undef])
 (M.bind (noPan (M.pure (strip a0))) fun t21_15 =>
 M.bind (noPan (M.pure (strip a0))) fun t22_16 =>
 M.bind (noPan (nc P t22_16)) fun t23_17 =>
 M.bind (noPan (fa 0 t23_17)) fun t24_18 =>
 M.bind (noPan (fa 3 t3_0)) fun t26_19 =>
 M.bind (noPan (ld none true t24_18)) fun t25_20 =>
 M.bind (noPan (ld none false t26_19)) fun t27_21 =>
 M.bind (noPan (cv (.int .u32) true t27_21)) fun t28_22 =>
 M.bind (noPan (cv (.int .i32) true t28_22)) fun t29_23 =>
 M.bind (noPan (cv (.int .i64) true t29_23)) fun t30_24 =>
 M.bind (noPan (C k_ratchetref01_PutS [(strip t30_24)])) fun t31_25 =>
 M.bind (noPan (ap true 1 1 t25_20 t31_25)) fun t32_26 =>
 M.bind (noPan (nc P t21_15)) fun t33_27 =>
 M.bind (noPan (fa 0 t33_27)) fun t34_28 =>
 M.bind (noPan (st 1 true t34_28 t32_26)) fun _ =>
 M.pure [a0, a1, PV.undef, t3_0, t4_1, t5_2, t6_3, t8_4, (strip t8_4), (strip a0), (strip a0), t11_5, t12_6, t13_7, (strip t13_7), t15_8, t16_9, t17_10, (strip t18_11), t19_12, t20_13, t21_15, t22_16, t23_17, t24_18, (strip t25_20), t26_19, t27_21, t28_22, t29_23, t30_24, t31_25, (strip t32_26), t33_27, t34_28, PV.undef, PV.undef, PV.undef, PV.undef, PV.undef, PV.undef, PV.undef, PV.undef, PV.undef, PV.undef, PV.undef, PV.undef, PV.undef, PV.undef, PV.undef, PV.undef, PV.undef, PV.undef, PV.undef, PV.undef, PV.undef, PV.undef, PV.undef, PV.undef, PV.undef, PV.undef, PV.undef, PV.undef, PV.undef, PV.undef, PV.undef, PV.undef, PV.undef, PV.undef, PV.undef, PV.undef, PV.undef, PV.undef, PV.undef, PV.undef, PV.undef, PV.undef, PV.undef, PV.undef, PV.undef, PV.undef, PV.undef, PV.undef, PV.undef, PV.undef, PV.undef, PV.undef]) <|
 M.bind (noPan (M.pure (strip a0))) fun t21_60 =>
 M.bind (noPan (M.pure (strip a0))) fun t22_61 =>
 M.bind (noPan (nc P t22_61)) fun t23_62 =>
 M.bind (noPan (fa 0 t23_62)) fun t24_63 =>
 M.bind (noPan (fa 3 t3_0)) fun t26_64 =>
 M.bind (noPan (ld none true t24_63)) fun t25_65 =>
 M.bind (noPan (ld none false t26_64)) fun t27_66 =>
 M.bind (noPan (cv (.int .u32) true t27_66)) fun t28_67 =>
 M.bind (noPan (cv (.int .i32) true t28_67)) fun t29_68 =>
 M.bind (noPan (cv (.int .i64) true t29_68)) fun t30_69 =>
 M.bind (noPan (C k_ratchetref01_PutS [(strip t30_69)])) fun t31_70 =>
 M.bind (noPan (ap true 1 1 t25_65 t31_70)) fun t32_71 =>
 M.bind (noPan (nc P t21_60)) fun t33_72 =>
 M.bind (noPan (fa 0 t33_72)) fun t34_73 =>
 M.bind (noPan (st 1 true t34_73 t32_71)) fun _ =>
 M.pure (.tup []))
 (M.bind (bi .eql .none t6_3 (.str ⟨#[105, 54, 52]⟩)) fun t36_75 =>
 condM t36_75
 (chk
 (M.bind (noPan (M.pure (strip a0))) fun t37_89 =>
 M.bind (noPan (M.pure (strip a0))) fun t38_90 =>
 M.bind (noPan (nc P t38_90)) fun t39_91 =>
 M.bind (noPan (fa 0 t39_91)) fun t40_92 =>
 M.bind (noPan (fa 3 t3_0)) fun t42_93 =>
 M.bind (noPan (ld none false t42_93)) fun t43_94 =>
 M.bind (noPan (cv (.int .i64) true t43_94)) fun t44_95 =>
 M.bind (noPan (ld none true t40_92)) fun t41_96 =>
 M.bind (noPan (C k_ratchetref01_PutS [(strip t44_95)])) fun t45_97 =>
 M.bind (noPan (ap true 1 1 t41_96 t45_97)) fun t46_98 =>
 M.bind (noPan (nc P t37_89)) fun t47_99 =>
 M.bind (noPan (fa 0 t47_99)) fun t48_100 =>
 M.bind (noPan (st 1 true t48_100 t46_98)) fun _ =>
 M.pure [a0, a1, PV.undef, t3_0, t4_1, t5_2, t6_3, t8_4, (strip t8_4), PV.undef, PV.undef, PV.undef, PV.undef, PV.undef, PV.undef, PV.undef, PV.undef, PV.undef, PV.undef, PV.undef, PV.undef, PV.undef, PV.undef, PV.undef, PV.undef, PV.undef, PV.undef, PV.undef, PV.undef, PV.undef, PV.undef, PV.undef, PV.undef, PV.undef, PV.undef, t36_75, (strip t36_75), t37_89, t38_90, t39_91, t40_92, (strip t41_96), t42_93, t43_94, t44_95, t45_97, (strip t46_98), t47_99, t48_100, PV.undef, PV.undef, PV.undef, PV.undef, PV.undef, PV.undef, PV.undef, PV.undef, PV.undef, PV.undef, PV.undef, PV.undef, PV.undef, PV.undef, PV.undef, PV.undef, PV.undef, PV.undef, PV.undef, PV.undef, PV.undef, PV.undef, PV.undef, PV.undef, PV.undef, PV.undef, PV.undef, PV.undef, PV.undef, PV.undef, PV.undef, PV.undef, PV.undef, PV.undef, PV.undef, PV.undef, PV.undef, PV.undef])
 (M.bind (noPan (M.pure (strip a0))) fun t37_76 =>
 M.bind (noPan (M.pure (strip a0))) fun t38_77 =>
 M.bind (noPan (nc P t38_77)) fun t39_78 =>
 M.bind (noPan (fa 0 t39_78)) fun t40_79 =>
 M.bind (noPan (fa 3 t3_0)) fun t42_80 =>
 M.bind (noPan (ld none true t40_79)) fun t41_81 =>
 M.bind (noPan (ld none false t42_80)) fun t43_82 =>
 M.bind (noPan (cv (.int .i64) true t43_82)) fun t44_83 =>
 M.bind (noPan (C k_ratchetref01_PutS [(strip t44_83)])) fun t45_84 =>
 M.bind (noPan (ap true 1 1 t41_81 t45_84)) fun t46_85 =>
 M.bind (noPan (nc P t37_76)) fun t47_86 =>
 M.bind (noPan (fa 0 t47_86)) fun t48_87 =>
 M.bind (noPan (st 1 true t48_87 t46_85)) fun _ =>
 M.pure [a0, a1, PV.undef, t3_0, t4_1, t5_2, t6_3, t8_4, (strip t8_4), PV.undef, PV.undef, PV.undef, PV.undef, PV.undef, PV.undef, PV.undef, PV.undef, PV.undef, PV.undef, PV.undef, PV.undef, PV.undef, PV.undef, PV.undef, PV.undef, PV.undef, PV.undef, PV.undef, PV.undef, PV.undef, PV.undef, PV.undef, PV.undef, PV.undef, PV.undef, t36_75, (strip t36_75), t37_76, t38_77, t39_78, t40_79, (strip t41_81), t42_80, t43_82, t44_83, t45_84, (strip t46_85), t47_86, t48_87, PV.undef, PV.undef, PV.undef, PV.undef, PV.undef, PV.undef, PV.undef, PV.undef, PV.undef, PV.undef, PV.undef, PV.undef, PV.undef, PV.undef, PV.undef, PV.undef, PV.undef, PV.undef, PV.undef, PV.undef, PV.undef, PV.undef, PV.undef, PV.undef, PV.undef, PV.undef, PV.undef, PV.undef, PV.undef, PV.undef, PV.undef, PV.undef, PV.undef, PV.undef, PV.undef, PV.undef, PV.undef, PV.undef]) <|
 chk
 (M.bind (noPan (M.pure (strip a0))) fun t37_102 =>
 M.bind (noPan (M.pure (strip a0))) fun t38_103 =>
 M.bind (noPan (nc P t38_103)) fun t39_104 =>
 M.bind (noPan (fa 0 t39_104)) fun t40_105 =>
 M.bind (noPan (fa 3 t3_0)) fun t42_106 =>
 M.bind (noPan (ld none false t42_106)) fun t43_107 =>
 M.bind (noPan (cv (.int .i64) true t43_107)) fun t44_108 =>
 M.bind (noPan (C k_ratchetref01_PutS [(strip t44_108)])) fun t45_109 =>
 M.bind (noPan (ld none true t40_105)) fun t41_110 =>
 M.bind (noPan (ap true 1 1 t41_110 t45_109)) fun t46_111 =>
 M.bind (noPan (nc P t37_102)) fun t47_112 =>
 M.bind (noPan (fa 0 t47_112)) fun t48_113 =>
 M.bind (noPan (st 1 true t48_113 t46_111)) fun _ =>
 M.pure [a0, a1, PV.undef, t3_0, t4_1, t5_2, t6_3, t8_4, (strip t8_4), PV.undef, PV.undef, PV.undef, PV.undef, PV.undef, PV.undef, PV.undef, PV.undef, PV.undef, PV.undef, PV.undef, PV.undef, PV.undef, PV.undef, PV.undef, PV.undef, PV.undef, PV.undef, PV.undef, PV.undef, PV.undef, PV.undef, PV.undef, PV.undef, PV.undef, PV.undef, t36_75, (strip t36_75), t37_102, t38_103, t39_104, t40_105, (strip t41_110), t42_106, t43_107, t44_108, t45_109, (strip t46_111), t47_112, t48_113, PV.undef, PV.undef, PV.undef, PV.undef, PV.undef, PV.undef, PV.undef, PV.undef, PV.undef, PV.undef, PV.undef, PV.undef, PV.undef, PV.undef, PV.undef, PV.undef, PV.undef, PV.undef, PV.undef, PV.undef, PV.undef, PV.undef, PV.undef, PV.undef, PV.undef, PV.undef, PV.undef, PV.undef, PV.undef, PV.undef, PV.undef, PV.undef, PV.undef, PV.undef, PV.undef, PV.undef, PV.undef, PV.undef])
 (M.bind (noPan (M.pure (strip a0))) fun t37_76 =>
 M.bind (noPan (M.pure (strip a0))) fun t38_77 =>
 M.bind (noPan (nc P t38_77)) fun t39_78 =>
 M.bind (noPan (fa 0 t39_78)) fun t40_79 =>
 M.bind (noPan (fa 3 t3_0)) fun t42_80 =>
 M.bind (noPan (ld none true t40_79)) fun t41_81 =>
 M.bind (noPan (ld none false t42_80)) fun t43_82 =>
 M.bind (noPan (cv (.int .i64) true t43_82)) fun t44_83 =>
 M.bind (noPan (C k_ratchetref01_PutS [(strip t44_83)])) fun t45_84 =>
 M.bind (noPan (ap true 1 1 t41_81 t45_84)) fun t46_85 =>
 M.bind (noPan (nc P t37_76)) fun t47_86 =>
 M.bind (noPan (fa 0 t47_86)) fun t48_87 =>
 M.bind (noPan (st 1 true t48_87 t46_85)) fun _ =>
 M.pure [a0, a1, PV.undef, t3_0, t4_1, t5_2, t6_3, t8_4, (strip t8_4), PV.undef, PV.undef, PV.undef, PV.undef, PV.undef, PV.undef, PV.undef, PV.undef, PV.undef, PV.undef, PV.undef, PV.undef, PV.undef, PV.undef, PV.undef, PV.undef, PV.undef, PV.undef, PV.undef, PV.undef, PV.undef, PV.undef, PV.undef, PV.undef, PV.undef, PV.undef, t36_75, (strip t36_75), t37_76, t38_77, t39_78, t40_79, (strip t41_81), t42_80, t43_82, t44_83, t45_84, (strip t46_85), t47_86, t48_87, PV.undef, PV.undef, PV.undef, PV.undef, PV.undef, PV.undef, PV.undef, PV.undef, PV.undef, PV.undef, PV.undef, PV.undef, PV.undef, PV.undef, PV.undef, PV.undef, PV.undef, PV.undef, PV.undef, PV.undef, PV.undef, PV.undef, PV.undef, PV.undef, PV.undef, PV.undef, PV.undef, PV.undef, PV.undef, PV.undef, PV.undef, PV.undef, PV.undef, PV.undef, PV.undef, PV.undef, PV.undef, PV.undef]) <|
 M.bind (noPan (M.pure (strip a0))) fun t37_115 =>
 M.bind (noPan (M.pure (strip a0))) fun t38_116 =>
 M.bind (noPan (nc P t38_116)) fun t39_117 =>
 M.bind (noPan (fa 0 t39_117)) fun t40_118 =>
 M.bind (noPan (fa 3 t3_0)) fun t42_119 =>
 M.bind (noPan (ld none true t40_118)) fun t41_120 =>
 M.bind (noPan (ld none false t42_119)) fun t43_121 =>
 M.bind (noPan (cv (.int .i64) true t43_121)) fun t44_122 =>
 M.bind (noPan (C k_ratchetref01_PutS [(strip t44_122)])) fun t45_123 =>
 M.bind (noPan (ap true 1 1 t41_120 t45_123)) fun t46_124 =>
 M.bind (noPan (nc P t37_115)) fun t47_125 =>
 M.bind (noPan (fa 0 t47_125)) fun t48_126 =>
 M.bind (noPan (st 1 true t48_126 t46_124)) fun _ =>
 M.pure (.tup []))
 (M.bind (bi .eql .none t6_3 (.str ⟨#[102, 51, 50]⟩)) fun t50_128 =>
 condM t50_128
 (M.bind (nc P (strip a0)) fun t53_129 =>
 M.bind (fa 1 t53_129) fun t54_130 =>
 M.bind (ld none false t54_130) fun t55_131 =>
 M.bind (gd (strip t55_131) false (fa 3 t3_0)) fun t57_132 =>
 M.bind (gd (strip t55_131) false (ld none false t57_132)) fun t58_133 =>
 M.bind (gd (strip t55_131) false (bi .geq .none t58_133 (.int .u64 4294967296))) fun t59_134 =>
 M.bind (pick (strip t55_131) (.bool true) t59_134) fun t60_135 =>
 M.bind (nc P (strip a0)) fun t61_136 =>
 M.bind (fa 1 t61_136) fun t62_137 =>
 M.bind (st 1 true t62_137 t60_135) fun _ =>
 chk
 (M.bind (noPan (M.pure (strip a0))) fun t63_151 =>
 M.bind (noPan (M.pure (strip a0))) fun t64_152 =>
 M.bind (noPan (nc P t64_152)) fun t65_153 =>
 M.bind (noPan (fa 0 t65_153)) fun t66_154 =>
 M.bind (noPan (fa 3 t3_0)) fun t68_155 =>
 M.bind (noPan (ld none false t68_155)) fun t69_156 =>
 M.bind (noPan (ld none true t66_154)) fun t67_157 =>
 M.bind (noPan (C k_ratchetref01_PutFixed [(strip t69_156), (.int .i64 4)])) fun t70_158 =>
 M.bind (noPan (ap true 1 1 t67_157 t70_158)) fun t71_159 =>
 M.bind (noPan (nc P t63_151)) fun t72_160 =>
 M.bind (noPan (fa 0 t72_160)) fun t73_161 =>
 M.bind (noPan (st 1 true t73_161 t71_159)) fun _ =>
 M.pure [a0, a1, PV.undef, t3_0, t4_1, t5_2, t6_3, t8_4, (strip t8_4), PV.undef, PV.undef, PV.undef, PV.undef, PV.undef, PV.undef, PV.undef, PV.undef, PV.undef, PV.undef, PV.undef, PV.undef, PV.undef, PV.undef, PV.undef, PV.undef, PV.undef, PV.undef, PV.undef, PV.undef, PV.undef, PV.undef, PV.undef, PV.undef, PV.undef, PV.undef, t36_75, (strip t36_75), PV.undef, PV.undef, PV.undef, PV.undef, PV.undef, PV.undef, PV.undef, PV.undef, PV.undef, PV.undef, PV.undef, PV.undef, t50_128, (strip t50_128), (strip a0), (strip a0), t53_129, t54_130, t55_131, (strip t55_131), t57_132, t58_133, t59_134, (strip t60_135), t61_136, t62_137, t63_151, t64_152, t65_153, t66_154, (strip t67_157), t68_155, t69_156, t70_158, (strip t71_159), t72_160, t73_161, PV.undef, PV.undef, PV.undef, PV.undef, PV.undef, PV.undef, PV.undef, PV.undef, PV.undef, PV.undef, PV.undef, PV.undef, PV.undef])
 (M.bind (noPan (M.pure (strip a0))) fun t63_139 =>
 M.bind (noPan (M.pure (strip a0))) fun t64_140 =>
 M.bind (noPan (nc P t64_140)) fun t65_141 =>
 M.bind (noPan (fa 0 t65_141)) fun t66_142 =>
 M.bind (noPan (fa 3 t3_0)) fun t68_143 =>
 M.bind (noPan (ld none true t66_142)) fun t67_144 =>
 M.bind (noPan (ld none false t68_143)) fun t69_145 =>
 M.bind (noPan (C k_ratchetref01_PutFixed [(strip t69_145), (.int .i64 4)])) fun t70_146 =>
 M.bind (noPan (ap true 1 1 t67_144 t70_146)) fun t71_147 =>
 M.bind (noPan (nc P t63_139)) fun t72_148 =>
 M.bind (noPan (fa 0 t72_148)) fun t73_149 =>
 M.bind (noPan (st 1 true t73_149 t71_147)) fun _ =>
 M.pure [a0, a1, PV.undef, t3_0, t4_1, t5_2, t6_3, t8_4, (strip t8_4), PV.undef, PV.undef, PV.undef, PV.undef, PV.undef, PV.undef, PV.undef, PV.undef, PV.undef, PV.undef, PV.undef, PV.undef, PV.undef, PV.undef, PV.undef, PV.undef, PV.undef, PV.undef, PV.undef, PV.undef, PV.undef, PV.undef, PV.undef, PV.undef, PV.undef, PV.undef, t36_75, (strip t36_75), PV.undef, PV.undef, PV.undef, PV.undef, PV.undef, PV.undef, PV.undef, PV.undef, PV.undef, PV.undef, PV.undef, PV.undef, t50_128, (strip t50_128), (strip a0), (strip a0), t53_129, t54_130, t55_131, (strip t55_131), t57_132, t58_133, t59_134, (strip t60_135), t61_136, t62_137, t63_139, t64_140, t65_141, t66_142, (strip t67_144), t68_143, t69_145, t70_146, (strip t71_147), t72_148, t73_149, PV.undef, PV.undef, PV.undef, PV.undef, PV.undef, PV.undef, PV.undef, PV.undef, PV.undef, PV.undef, PV.undef, PV.undef, PV.undef]) <|
 chk
 (M.bind (noPan (M.pure (strip a0))) fun t63_163 =>
 M.bind (noPan (M.pure (strip a0))) fun t64_164 =>
 M.bind (noPan (nc P t64_164)) fun t65_165 =>
 M.bind (noPan (fa 0 t65_165)) fun t66_166 =>
 M.bind (noPan (fa 3 t3_0)) fun t68_167 =>
 M.bind (noPan (ld none false t68_167)) fun t69_168 =>
 M.bind (noPan (C k_ratchetref01_PutFixed [(strip t69_168), (.int .i64 4)])) fun t70_169 =>
 M.bind (noPan (ld none true t66_166)) fun t67_170 =>
 M.bind (noPan (ap true 1 1 t67_170 t70_169)) fun t71_171 =>
 M.bind (noPan (nc P t63_163)) fun t72_172 =>
 M.bind (noPan (fa 0 t72_172)) fun t73_173 =>
 M.bind (noPan (st 1 true t73_173 t71_171)) fun _ =>
 M.pure [a0, a1, PV.undef, t3_0, t4_1, t5_2, t6_3, t8_4, (strip t8_4), PV.undef, PV.undef, PV.undef, PV.undef, PV.undef, PV.undef, PV.undef, PV.undef, PV.undef, PV.undef, PV.undef, PV.undef, PV.undef, PV.undef, PV.undef, PV.undef, PV.undef, PV.undef, PV.undef, PV.undef, PV.undef, PV.undef, PV.undef, PV.undef, PV.undef, PV.undef, t36_75, (strip t36_75), PV.undef, PV.undef, PV.undef, PV.undef, PV.undef, PV.undef, PV.undef, PV.undef, PV.undef, PV.undef, PV.undef, PV.undef, t50_128, (strip t50_128), (strip a0), (strip a0), t53_129, t54_130, t55_131, (strip t55_131), t57_132, t58_133, t59_134, (strip t60_135), t61_136, t62_137, t63_163, t64_164, t65_165, t66_166, (strip t67_170), t68_167, t69_168, t70_169, (strip t71_171), t72_172, t73_173, PV.undef, PV.undef, PV.undef, PV.undef, PV.undef, PV.undef, PV.undef, PV.undef, PV.undef, PV.undef, PV.undef, PV.undef, PV.undef])
 (M.bind (noPan (M.pure (strip a0))) fun t63_139 =>
 M.bind (noPan (M.pure (strip a0))) fun t64_140 =>
 M.bind (noPan (nc P t64_140)) fun t65_141 =>
 M.bind (noPan (fa 0 t65_141)) fun t66_142 =>
 M.bind (noPan (fa 3 t3_0)) fun t68_143 =>
 M.bind (noPan (ld none true t66_142)) fun t67_144 =>
 M.bind (noPan (ld none false t68_143)) fun t69_145 =>
 M.bind (noPan (C k_ratchetref01_PutFixed [(strip t69_145), (.int .i64 4)])) fun t70_146 =>
 M.bind (noPan (ap true 1 1 t67_144 t70_146)) fun t71_147 =>
 M.bind (noPan (nc P t63_139)) fun t72_148 =>
 M.bind (noPan (fa 0 t72_148)) fun t73_149 =>
 M.bind (noPan (st 1 true t73_149 t71_147)) fun _ =>
 M.pure [a0, a1, PV.undef, t3_0, t4_1, t5_2, t6_3, t8_4, (strip t8_4), PV.undef, PV.undef, PV.undef, PV.undef, PV.undef, PV.undef, PV.undef, PV.undef, PV.undef, PV.undef, PV.undef, PV.undef, PV.undef, PV.undef, PV.undef, PV.undef, PV.undef, PV.undef, PV.undef, PV.undef, PV.undef, PV.undef, PV.undef, PV.undef, PV.undef, PV.undef, t36_75, (strip t36_75), PV.undef, PV.undef, PV.undef, PV.undef, PV.undef, PV.undef, PV.undef, PV.undef, PV.undef, PV.undef, PV.undef, PV.undef, t50_128, (strip t50_128), (strip a0), (strip a0), t53_129, t54_130, t55_131, (strip t55_131), t57_132, t58_133, t59_134, (strip t60_135), t61_136, t62_137, t63_139, t64_140, t65_141, t66_142, (strip t67_144), t68_143, t69_145, t70_146, (strip t71_147), t72_148, t73_149, PV.undef, PV.undef, PV.undef, PV.undef, PV.undef, PV.undef, PV.undef, PV.undef, PV.undef, PV.undef, PV.undef, PV.undef, PV.undef]) <|
 M.bind (noPan (M.pure (strip a0))) fun t63_175 =>
 M.bind (noPan (M.pure (strip a0))) fun t64_176 =>
 M.bind (noPan (nc P t64_176)) fun t65_177 =>
 M.bind (noPan (fa 0 t65_177)) fun t66_178 =>
 M.bind (noPan (fa 3 t3_0)) fun t68_179 =>
 M.bind (noPan (ld none true t66_178)) fun t67_180 =>
 M.bind (noPan (ld none false t68_179)) fun t69_181 =>
 M.bind (noPan (C k_ratchetref01_PutFixed [(strip t69_181), (.int .i64 4)])) fun t70_182 =>
 M.bind (noPan (ap true 1 1 t67_180 t70_182)) fun t71_183 =>
 M.bind (noPan (nc P t63_175)) fun t72_184 =>
 M.bind (noPan (fa 0 t72_184)) fun t73_185 =>
 M.bind (noPan (st 1 true t73_185 t71_183)) fun _ =>
 M.pure (.tup []))
 (M.bind (bi .eql .none t6_3 (.str ⟨#[102, 54, 52]⟩)) fun t75_187 =>
 condM t75_187
 (chk
 (M.bind (noPan (M.pure (strip a0))) fun t76_200 =>
 M.bind (noPan (M.pure (strip a0))) fun t77_201 =>
 M.bind (noPan (nc P t77_201)) fun t78_202 =>
 M.bind (noPan (fa 0 t78_202)) fun t79_203 =>
 M.bind (noPan (fa 3 t3_0)) fun t81_204 =>
 M.bind (noPan (ld none false t81_204)) fun t82_205 =>
 M.bind (noPan (ld none true t79_203)) fun t80_206 =>
 M.bind (noPan (C k_ratchetref01_PutFixed [(strip t82_205), (.int .i64 8)])) fun t83_207 =>
 M.bind (noPan (ap true 1 1 t80_206 t83_207)) fun t84_208 =>
 M.bind (noPan (nc P t76_200)) fun t85_209 =>
 M.bind (noPan (fa 0 t85_209)) fun t86_210 =>
 M.bind (noPan (st 1 true t86_210 t84_208)) fun _ =>
 M.pure [a0, a1, PV.undef, t3_0, t4_1, t5_2, t6_3, t8_4, (strip t8_4), PV.undef, PV.undef, PV.undef, PV.undef, PV.undef, PV.undef, PV.undef, PV.undef, PV.undef, PV.undef, PV.undef, PV.undef, PV.undef, PV.undef, PV.undef, PV.undef, PV.undef, PV.undef, PV.undef, PV.undef, PV.undef, PV.undef, PV.undef, PV.undef, PV.undef, PV.undef, t36_75, (strip t36_75), PV.undef, PV.undef, PV.undef, PV.undef, PV.undef, PV.undef, PV.undef, PV.undef, PV.undef, PV.undef, PV.undef, PV.undef, t50_128, (strip t50_128), PV.undef, PV.undef, PV.undef, PV.undef, PV.undef, PV.undef, PV.undef, PV.undef, PV.undef, PV.undef, PV.undef, PV.undef, PV.undef, PV.undef, PV.undef, PV.undef, PV.undef, PV.undef, PV.undef, PV.undef, PV.undef, PV.undef, PV.undef, t75_187, (strip t75_187), t76_200, t77_201, t78_202, t79_203, (strip t80_206), t81_204, t82_205, t83_207, (strip t84_208), t85_209, t86_210])
 (M.bind (noPan (M.pure (strip a0))) fun t76_188 =>
 M.bind (noPan (M.pure (strip a0))) fun t77_189 =>
 M.bind (noPan (nc P t77_189)) fun t78_190 =>
 M.bind (noPan (fa 0 t78_190)) fun t79_191 =>
 M.bind (noPan (fa 3 t3_0)) fun t81_192 =>
 M.bind (noPan (ld none true t79_191)) fun t80_193 =>
 M.bind (noPan (ld none false t81_192)) fun t82_194 =>
 M.bind (noPan (C k_ratchetref01_PutFixed [(strip t82_194), (.int .i64 8)])) fun t83_195 =>
 M.bind (noPan (ap true 1 1 t80_193 t83_195)) fun t84_196 =>
 M.bind (noPan (nc P t76_188)) fun t85_197 =>
 M.bind (noPan (fa 0 t85_197)) fun t86_198 =>
 M.bind (noPan (st 1 true t86_198 t84_196)) fun _ =>
 M.pure [a0, a1, PV.undef, t3_0, t4_1, t5_2, t6_3, t8_4, (strip t8_4), PV.undef, PV.undef, PV.undef, PV.undef, PV.undef, PV.undef, PV.undef, PV.undef, PV.undef, PV.undef, PV.undef, PV.undef, PV.undef, PV.undef, PV.undef, PV.undef, PV.undef, PV.undef, PV.undef, PV.undef, PV.undef, PV.undef, PV.undef, PV.undef, PV.undef, PV.undef, t36_75, (strip t36_75), PV.undef, PV.undef, PV.undef, PV.undef, PV.undef, PV.undef, PV.undef, PV.undef, PV.undef, PV.undef, PV.undef, PV.undef, t50_128, (strip t50_128), PV.undef, PV.undef, PV.undef, PV.undef, PV.undef, PV.undef, PV.undef, PV.undef, PV.undef, PV.undef, PV.undef, PV.undef, PV.undef, PV.undef, PV.undef, PV.undef, PV.undef, PV.undef, PV.undef, PV.undef, PV.undef, PV.undef, PV.undef, t75_187, (strip t75_187), t76_188, t77_189, t78_190, t79_191, (strip t80_193), t81_192, t82_194, t83_195, (strip t84_196), t85_197, t86_198]) <|
 chk
 (M.bind (noPan (M.pure (strip a0))) fun t76_212 =>
 M.bind (noPan (M.pure (strip a0))) fun t77_213 =>
 M.bind (noPan (nc P t77_213)) fun t78_214 =>
 M.bind (noPan (fa 0 t78_214)) fun t79_215 =>
 M.bind (noPan (fa 3 t3_0)) fun t81_216 =>
 M.bind (noPan (ld none false t81_216)) fun t82_217 =>
 M.bind (noPan (C k_ratchetref01_PutFixed [(strip t82_217), (.int .i64 8)])) fun t83_218 =>
 M.bind (noPan (ld none true t79_215)) fun t80_219 =>
 M.bind (noPan (ap true 1 1 t80_219 t83_218)) fun t84_220 =>
 M.bind (noPan (nc P t76_212)) fun t85_221 =>
 M.bind (noPan (fa 0 t85_221)) fun t86_222 =>
 M.bind (noPan (st 1 true t86_222 t84_220)) fun _ =>
 M.pure [a0, a1, PV.undef, t3_0, t4_1, t5_2, t6_3, t8_4, (strip t8_4), PV.undef, PV.undef, PV.undef, PV.undef, PV.undef, PV.undef, PV.undef, PV.undef, PV.undef, PV.undef, PV.undef, PV.undef, PV.undef, PV.undef, PV.undef, PV.undef, PV.undef, PV.undef, PV.undef, PV.undef, PV.undef, PV.undef, PV.undef, PV.undef, PV.undef, PV.undef, t36_75, (strip t36_75), PV.undef, PV.undef, PV.undef, PV.undef, PV.undef, PV.undef, PV.undef, PV.undef, PV.undef, PV.undef, PV.undef, PV.undef, t50_128, (strip t50_128), PV.undef, PV.undef, PV.undef, PV.undef, PV.undef, PV.undef, PV.undef, PV.undef, PV.undef, PV.undef, PV.undef, PV.undef, PV.undef, PV.undef, PV.undef, PV.undef, PV.undef, PV.undef, PV.undef, PV.undef, PV.undef, PV.undef, PV.undef, t75_187, (strip t75_187), t76_212, t77_213, t78_214, t79_215, (strip t80_219), t81_216, t82_217, t83_218, (strip t84_220), t85_221, t86_222])
 (M.bind (noPan (M.pure (strip a0))) fun t76_188 =>
 M.bind (noPan (M.pure (strip a0))) fun t77_189 =>
 M.bind (noPan (nc P t77_189)) fun t78_190 =>
 M.bind (noPan (fa 0 t78_190)) fun t79_191 =>
 M.bind (noPan (fa 3 t3_0)) fun t81_192 =>
 M.bind (noPan (ld none true t79_191)) fun t80_193 =>
 M.bind (noPan (ld none false t81_192)) fun t82_194 =>
 M.bind (noPan (C k_ratchetref01_PutFixed [(strip t82_194), (.int .i64 8)])) fun t83_195 =>
 M.bind (noPan (ap true 1 1 t80_193 t83_195)) fun t84_196 =>
 M.bind (noPan (nc P t76_188)) fun t85_197 =>
 M.bind (noPan (fa 0 t85_197)) fun t86_198 =>
 M.bind (noPan (st 1 true t86_198 t84_196)) fun _ =>
 M.pure [a0, a1, PV.undef, t3_0, t4_1, t5_2, t6_3, t8_4, (strip t8_4), PV.undef, PV.undef, PV.undef, PV.undef, PV.undef, PV.undef, PV.undef, PV.undef, PV.undef, PV.undef, PV.undef, PV.undef, PV.undef, PV.undef, PV.undef, PV.undef, PV.undef, PV.undef, PV.undef, PV.undef, PV.undef, PV.undef, PV.undef, PV.undef, PV.undef, PV.undef, t36_75, (strip t36_75), PV.undef, PV.undef, PV.undef, PV.undef, PV.undef, PV.undef, PV.undef, PV.undef, PV.undef, PV.undef, PV.undef, PV.undef, t50_128, (strip t50_128), PV.undef, PV.undef, PV.undef, PV.undef, PV.undef, PV.undef, PV.undef, PV.undef, PV.undef, PV.undef, PV.undef, PV.undef, PV.undef, PV.undef, PV.undef, PV.undef, PV.undef, PV.undef, PV.undef, PV.undef, PV.undef, PV.undef, PV.undef, t75_187, (strip t75_187), t76_188, t77_189, t78_190, t79_191, (strip t80_193), t81_192, t82_194, t83_195, (strip t84_196), t85_197, t86_198]) <|
 M.bind (noPan (M.pure (strip a0))) fun t76_224 =>
 M.bind (noPan (M.pure (strip a0))) fun t77_225 =>
 M.bind (noPan (nc P t77_225)) fun t78_226 =>
 M.bind (noPan (fa 0 t78_226)) fun t79_227 =>
 M.bind (noPan (fa 3 t3_0)) fun t81_228 =>
 M.bind (noPan (ld none true t79_227)) fun t80_229 =>
 M.bind (noPan (ld none false t81_228)) fun t82_230 =>
 M.bind (noPan (C k_ratchetref01_PutFixed [(strip t82_230), (.int .i64 8)])) fun t83_231 =>
 M.bind (noPan (ap true 1 1 t80_229 t83_231)) fun t84_232 =>
 M.bind (noPan (nc P t76_224)) fun t85_233 =>
 M.bind (noPan (fa 0 t85_233)) fun t86_234 =>
 M.bind (noPan (st 1 true t86_234 t84_232)) fun _ =>
 M.pure (.tup []))
 (M.pure (.tup [])))))) := by
 rw [C, callW_eq _ _ rfl]; kernel_rfl
noncomputable def p_instr_within_1010 (v1 v4 v7 v8 v9 : PV) : M PV := atP P X k_instr_within [1, 0, 1, 0] (mkEnv 42 0 [(1, v1), (4, v4), (7, v7), (8, v8), (9, v9)])
theorem p_instr_within_1010_eq (v1 v4 v7 v8 v9 : PV) : p_instr_within_1010 v1 v4 v7 v8 v9 =
 M.bind (bi .lss .none v9 v8) fun t10_0 =>
 condM t10_0
 (M.bind (iaS 5 v7 v9) fun t11_1 =>
 M.bind (ld (some 5) true t11_1) fun t12_2 =>
 M.bind (al [(.int .i64 0), (.int .i64 0), (.str ⟨#[]⟩), (.str ⟨#[]⟩), (.int .i64 0)]) fun t6_3 =>
 M.bind (st 5 true t6_3 t12_2) fun _ =>
 M.bind (fa 0 t6_3) fun t14_5 =>
 M.bind (ld none false t14_5) fun t15_6 =>
 M.bind (bi .geq .none (strip v1) t15_6) fun t16_7 =>
 M.bind (gd (strip t16_7) true (M.pure (strip v1))) fun t18_8 =>
 M.bind (gd (strip t16_7) true (fa 0 t6_3)) fun t19_9 =>
 M.bind (gd (strip t16_7) true (ld none false t19_9)) fun t20_10 =>
 M.bind (gd (strip t16_7) true (fa 1 t6_3)) fun t21_11 =>
 M.bind (gd (strip t16_7) true (ld none false t21_11)) fun t22_12 =>
 M.bind (gd (strip t16_7) true (bi .add .none t20_10 t22_12)) fun t23_13 =>
 M.bind (gd (strip t16_7) true (bi .lss .none t18_8 t23_13)) fun t24_14 =>
 M.bind (pick (strip t16_7) t24_14 (.bool false)) fun t25_15 =>
 condM t25_15
 (nb (M.pure (strip v1)) fun t26_16 =>
 nb (fa 2 t6_3) fun t27_17 =>
 guardM (!clash (tld t27_17) (.no) && true) <| nb (ld none false t27_17) fun t28_18 =>
 nb (fa 3 t6_3) fun t29_19 =>
 guardM (!clash (tld t29_19) (tld t27_17) && (!clash (tld t29_19) (.no) && (!clash (tld t29_19) (.no) && true))) <| nb (ld none false t29_19) fun t30_20 =>
 nb (M.pure (strip v1)) fun t31_21 =>
 nb (fa 0 t6_3) fun t32_22 =>
 guardM (!clash (tld t32_22) (.no) && (!clash (tld t32_22) (tld t29_19) && (!clash (tld t32_22) (.no) && (!clash (tld t32_22) (tld t27_17) && (!clash (tld t32_22) (.no) && (!clash (tld t32_22) (.no) && true)))))) <| nb (ld none false t32_22) fun t33_23 =>
 nb (bi .sub .none t31_21 t33_23) fun t34_24 =>
 guardM (!clash (.any) (tld t27_17) && (!clash (.any) (.no) && (!clash (.any) (.no) && true))) <| nb (C k_instr_nth [(strip t30_20), (strip t34_24)]) fun t35_25 =>
 nb (bi .add .none t28_18 t35_25) fun t36_26 =>
 nb (fa 4 t6_3) fun t37_27 =>
 guardM (!clash (tld t37_27) (.no) && (!clash (tld t37_27) (.any) && (!clash (tld t37_27) (.no) && (!clash (tld t37_27) (tld t32_22) && (!clash (tld t37_27) (.no) && (!clash (tld t37_27) (.no) && (!clash (tld t37_27) (tld t29_19) && (!clash (tld t37_27) (.no) && (!clash (tld t37_27) (tld t27_17) && (!clash (tld t37_27) (.no) && (!clash (tld t37_27) (.no) && true))))))))))) <| nb (ld none false t37_27) fun t38_28 =>
 nb (bd [(.int .i64 0), (.str ⟨#[]⟩), (.int .i64 0)] [(0, 1, t26_16), (1, 1, t36_26), (2, 1, t38_28)]) fun t39_29 =>
 M.bind (noPan (st 3 true v4 t39_29)) fun _ =>
 M.bind (ld (some 3) true v4) fun t0_31 => guardM (!isTup t0_31) (M.pure t0_31))
 (M.bind (bi .add .none v9 (.int .i64 1)) fun t40_32 =>
 p_instr_within_1010 v1 v4 v7 v8 (strip t40_32)))
 (M.bind (bd [(.int .i64 0), (.str ⟨#[]⟩), (.int .i64 0)] []) fun t41_33 =>
 M.bind (st 3 true v4 t41_33) fun _ =>
 M.bind (ld (some 3) true v4) fun t0_35 => guardM (!isTup t0_35) (M.pure t0_35)) :=
 (atP_step P X _ _ _).trans (by kernel_rfl)
theorem instr_within_eq (a0 a1 : PV) : C k_instr_within [a0, a1] =
 trunc (M.bind (al [(.int .i64 0), (.str ⟨#[]⟩), (.int .i64 0)]) fun t4_0 =>
 M.bind (lnL (strip a0)) fun t8_1 =>
 p_instr_within_1010 a1 t4_0 (strip a0) t8_1 (.int .i64 0)) := by
 rw [C, callW_eq _ _ rfl]; kernel_rfl
theorem instr_numbers_eq : C k_instr_numbers [] =
 trunc (M.bind (bd [(.int .i64 0), (.int .i64 0), (.str ⟨#[]⟩), (.str ⟨#[]⟩), (.int .i64 0)] [(0, 1, (.int .i64 0)), (1, 1, (.int .i64 2)), (2, 1, (.str ⟨#[]⟩)), (3, 1, (.str ⟨#[117, 110, 114, 101, 97, 99, 104, 97, 98, 108, 101, 32, 110, 111, 112]⟩)), (4, 1, (.int .i64 1))]) fun t1_0 =>
 M.bind (bd [(.int .i64 0), (.int .i64 0), (.str ⟨#[]⟩), (.str ⟨#[]⟩), (.int .i64 0)] [(0, 1, (.int .i64 2)), (1, 1, (.int .i64 3)), (2, 1, (.str ⟨#[]⟩)), (3, 1, (.str ⟨#[98, 108, 111, 99, 107, 32, 108, 111, 111, 112, 32, 105, 102]⟩)), (4, 1, (.int .i64 2))]) fun t2_1 =>
 M.bind (bd [(.int .i64 0), (.int .i64 0), (.str ⟨#[]⟩), (.str ⟨#[]⟩), (.int .i64 0)] [(0, 1, (.int .i64 5)), (1, 1, (.int .i64 1)), (2, 1, (.str ⟨#[]⟩)), (3, 1, (.str ⟨#[101, 108, 115, 101]⟩)), (4, 1, (.int .i64 1))]) fun t3_2 =>
 M.bind (bd [(.int .i64 0), (.int .i64 0), (.str ⟨#[]⟩), (.str ⟨#[]⟩), (.int .i64 0)] [(0, 1, (.int .i64 8)), (1, 1, (.int .i64 1)), (2, 1, (.str ⟨#[]⟩)), (3, 1, (.str ⟨#[116, 104, 114, 111, 119]⟩)), (4, 1, (.int .i64 4))]) fun t4_3 =>
 M.bind (bd [(.int .i64 0), (.int .i64 0), (.str ⟨#[]⟩), (.str ⟨#[]⟩), (.int .i64 0)] [(0, 1, (.int .i64 10)), (1, 1, (.int .i64 2)), (2, 1, (.str ⟨#[]⟩)), (3, 1, (.str ⟨#[116, 104, 114, 111, 119, 95, 114, 101, 102, 32, 101, 110, 100]⟩)), (4, 1, (.int .i64 1))]) fun t5_4 =>
 M.bind (bd [(.int .i64 0), (.int .i64 0), (.str ⟨#[]⟩), (.str ⟨#[]⟩), (.int .i64 0)] [(0, 1, (.int .i64 12)), (1, 1, (.int .i64 2)), (2, 1, (.str ⟨#[]⟩)), (3, 1, (.str ⟨#[98, 114, 32, 98, 114, 95, 105, 102]⟩)), (4, 1, (.int .i64 4))]) fun t6_5 =>
 M.bind (bd [(.int .i64 0), (.int .i64 0), (.str ⟨#[]⟩), (.str ⟨#[]⟩), (.int .i64 0)] [(0, 1, (.int .i64 14)), (1, 1, (.int .i64 1)), (2, 1, (.str ⟨#[]⟩)), (3, 1, (.str ⟨#[98, 114, 95, 116, 97, 98, 108, 101]⟩)), (4, 1, (.int .i64 6))]) fun t7_6 =>
 M.bind (bd [(.int .i64 0), (.int .i64 0), (.str ⟨#[]⟩), (.str ⟨#[]⟩), (.int .i64 0)] [(0, 1, (.int .i64 15)), (1, 1, (.int .i64 1)), (2, 1, (.str ⟨#[]⟩)), (3, 1, (.str ⟨#[114, 101, 116, 117, 114, 110]⟩)), (4, 1, (.int .i64 1))]) fun t8_7 =>
 M.bind (bd [(.int .i64 0), (.int .i64 0), (.str ⟨#[]⟩), (.str ⟨#[]⟩), (.int .i64 0)] [(0, 1, (.int .i64 16)), (1, 1, (.int .i64 1)), (2, 1, (.str ⟨#[]⟩)), (3, 1, (.str ⟨#[99, 97, 108, 108]⟩)), (4, 1, (.int .i64 4))]) fun t9_8 =>
 M.bind (bd [(.int .i64 0), (.int .i64 0), (.str ⟨#[]⟩), (.str ⟨#[]⟩), (.int .i64 0)] [(0, 1, (.int .i64 17)), (1, 1, (.int .i64 1)), (2, 1, (.str ⟨#[]⟩)), (3, 1, (.str ⟨#[99, 97, 108, 108, 95, 105, 110, 100, 105, 114, 101, 99, 116]⟩)), (4, 1, (.int .i64 5))]) fun t10_9 =>
 M.bind (bd [(.int .i64 0), (.int .i64 0), (.str ⟨#[]⟩), (.str ⟨#[]⟩), (.int .i64 0)] [(0, 1, (.int .i64 18)), (1, 1, (.int .i64 1)), (2, 1, (.str ⟨#[]⟩)), (3, 1, (.str ⟨#[114, 101, 116, 117, 114, 110, 95, 99, 97, 108, 108]⟩)), (4, 1, (.int .i64 4))]) fun t11_10 =>
 M.bind (bd [(.int .i64 0), (.int .i64 0), (.str ⟨#[]⟩), (.str ⟨#[]⟩), (.int .i64 0)] [(0, 1, (.int .i64 19)), (1, 1, (.int .i64 1)), (2, 1, (.str ⟨#[]⟩)), (3, 1, (.str ⟨#[114, 101, 116, 117, 114, 110, 95, 99, 97, 108, 108, 95, 105, 110, 100, 105, 114, 101, 99, 116]⟩)), (4, 1, (.int .i64 5))]) fun t12_11 =>
 M.bind (bd [(.int .i64 0), (.int .i64 0), (.str ⟨#[]⟩), (.str ⟨#[]⟩), (.int .i64 0)] [(0, 1, (.int .i64 20)), (1, 1, (.int .i64 2)), (2, 1, (.str ⟨#[]⟩)), (3, 1, (.str ⟨#[99, 97, 108, 108, 95, 114, 101, 102, 32, 114, 101, 116, 117, 114, 110, 95, 99, 97, 108, 108, 95, 114, 101, 102]⟩)), (4, 1, (.int .i64 4))]) fun t13_12 =>
 M.bind (bd [(.int .i64 0), (.int .i64 0), (.str ⟨#[]⟩), (.str ⟨#[]⟩), (.int .i64 0)] [(0, 1, (.int .i64 26)), (1, 1, (.int .i64 2)), (2, 1, (.str ⟨#[]⟩)), (3, 1, (.str ⟨#[100, 114, 111, 112, 32, 115, 101, 108, 101, 99, 116]⟩)), (4, 1, (.int .i64 1))]) fun t14_13 =>
 M.bind (bd [(.int .i64 0), (.int .i64 0), (.str ⟨#[]⟩), (.str ⟨#[]⟩), (.int .i64 0)] [(0, 1, (.int .i64 28)), (1, 1, (.int .i64 1)), (2, 1, (.str ⟨#[]⟩)), (3, 1, (.str ⟨#[115, 101, 108, 101, 99, 116, 95, 116]⟩)), (4, 1, (.int .i64 7))]) fun t15_14 =>
 M.bind (bd [(.int .i64 0), (.int .i64 0), (.str ⟨#[]⟩), (.str ⟨#[]⟩), (.int .i64 0)] [(0, 1, (.int .i64 31)), (1, 1, (.int .i64 1)), (2, 1, (.str ⟨#[]⟩)), (3, 1, (.str ⟨#[116, 114, 121, 95, 116, 97, 98, 108, 101]⟩)), (4, 1, (.int .i64 3))]) fun t16_15 =>
 M.bind (bd [(.int .i64 0), (.int .i64 0), (.str ⟨#[]⟩), (.str ⟨#[]⟩), (.int .i64 0)] [(0, 1, (.int .i64 32)), (1, 1, (.int .i64 7)), (2, 1, (.str ⟨#[]⟩)), (3, 1, (.str ⟨#[108, 111, 99, 97, 108, 46, 103, 101, 116, 32, 108, 111, 99, 97, 108, 46, 115, 101, 116, 32, 108, 111, 99, 97, 108, 46, 116, 101, 101, 32, 103, 108, 111, 98, 97, 108, 46, 103, 101, 116, 32, 103, 108, 111, 98, 97, 108, 46, 115, 101, 116, 32, 116, 97, 98, 108, 101, 46, 103, 101, 116, 32, 116, 97, 98, 108, 101, 46, 115, 101, 116]⟩)), (4, 1, (.int .i64 4))]) fun t17_16 =>
 M.bind (bd [(.int .i64 0), (.int .i64 0), (.str ⟨#[]⟩), (.str ⟨#[]⟩), (.int .i64 0)] [(0, 1, (.int .i64 40)), (1, 1, (.int .i64 23)), (2, 1, (.str ⟨#[]⟩)), (3, 1, (.str ⟨#[105, 51, 50, 46, 108, 111, 97, 100, 32, 105, 54, 52, 46, 108, 111, 97, 100, 32, 102, 51, 50, 46, 108, 111, 97, 100, 32, 102, 54, 52, 46, 108, 111, 97, 100, 32, 105, 51, 50, 46, 108, 111, 97, 100, 56, 95, 115, 32, 105, 51, 50, 46, 108, 111, 97, 100, 56, 95, 117, 32, 105, 51, 50, 46, 108, 111, 97, 100, 49, 54, 95, 115, 32, 105, 51, 50, 46, 108, 111, 97, 100, 49, 54, 95, 117, 32, 105, 54, 52, 46, 108, 111, 97, 100, 56, 95, 115, 32, 105, 54, 52, 46, 108, 111, 97, 100, 56, 95, 117, 32, 105, 54, 52, 46, 108, 111, 97, 100, 49, 54, 95, 115, 32, 105, 54, 52, 46, 108, 111, 97, 100, 49, 54, 95, 117, 32, 105, 54, 52, 46, 108, 111, 97, 100, 51, 50, 95, 115, 32, 105, 54, 52, 46, 108, 111, 97, 100, 51, 50, 95, 117, 32, 105, 51, 50, 46, 115, 116, 111, 114, 101, 32, 105, 54, 52, 46, 115, 116, 111, 114, 101, 32, 102, 51, 50, 46, 115, 116, 111, 114, 101, 32, 102, 54, 52, 46, 115, 116, 111, 114, 101, 32, 105, 51, 50, 46, 115, 116, 111, 114, 101, 56, 32, 105, 51, 50, 46, 115, 116, 111, 114, 101, 49, 54, 32, 105, 54, 52, 46, 115, 116, 111, 114, 101, 56, 32, 105, 54, 52, 46, 115, 116, 111, 114, 101, 49, 54, 32, 105, 54, 52, 46, 115, 116, 111, 114, 101, 51, 50]⟩)), (4, 1, (.int .i64 8))]) fun t18_17 =>
 M.bind (bd [(.int .i64 0), (.int .i64 0), (.str ⟨#[]⟩), (.str ⟨#[]⟩), (.int .i64 0)] [(0, 1, (.int .i64 63)), (1, 1, (.int .i64 2)), (2, 1, (.str ⟨#[]⟩)), (3, 1, (.str ⟨#[109, 101, 109, 111, 114, 121, 46, 115, 105, 122, 101, 32, 109, 101, 109, 111, 114, 121, 46, 103, 114, 111, 119]⟩)), (4, 1, (.int .i64 4))]) fun t19_18 =>
 M.bind (bd [(.int .i64 0), (.int .i64 0), (.str ⟨#[]⟩), (.str ⟨#[]⟩), (.int .i64 0)] [(0, 1, (.int .i64 65)), (1, 1, (.int .i64 1)), (2, 1, (.str ⟨#[]⟩)), (3, 1, (.str ⟨#[105, 51, 50, 46, 99, 111, 110, 115, 116]⟩)), (4, 1, (.int .i64 9))]) fun t20_19 =>
 M.bind (bd [(.int .i64 0), (.int .i64 0), (.str ⟨#[]⟩), (.str ⟨#[]⟩), (.int .i64 0)] [(0, 1, (.int .i64 66)), (1, 1, (.int .i64 1)), (2, 1, (.str ⟨#[]⟩)), (3, 1, (.str ⟨#[105, 54, 52, 46, 99, 111, 110, 115, 116]⟩)), (4, 1, (.int .i64 10))]) fun t21_20 =>
 M.bind (bd [(.int .i64 0), (.int .i64 0), (.str ⟨#[]⟩), (.str ⟨#[]⟩), (.int .i64 0)] [(0, 1, (.int .i64 67)), (1, 1, (.int .i64 1)), (2, 1, (.str ⟨#[]⟩)), (3, 1, (.str ⟨#[102, 51, 50, 46, 99, 111, 110, 115, 116]⟩)), (4, 1, (.int .i64 11))]) fun t22_21 =>
 M.bind (bd [(.int .i64 0), (.int .i64 0), (.str ⟨#[]⟩), (.str ⟨#[]⟩), (.int .i64 0)] [(0, 1, (.int .i64 68)), (1, 1, (.int .i64 1)), (2, 1, (.str ⟨#[]⟩)), (3, 1, (.str ⟨#[102, 54, 52, 46, 99, 111, 110, 115, 116]⟩)), (4, 1, (.int .i64 12))]) fun t23_22 =>
 M.bind (bd [(.int .i64 0), (.int .i64 0), (.str ⟨#[]⟩), (.str ⟨#[]⟩), (.int .i64 0)] [(0, 1, (.int .i64 69)), (1, 1, (.int .i64 11)), (2, 1, (.str ⟨#[105, 51, 50, 46]⟩)), (3, 1, (.str ⟨#[101, 113, 122, 32, 101, 113, 32, 110, 101, 32, 108, 116, 95, 115, 32, 108, 116, 95, 117, 32, 103, 116, 95, 115, 32, 103, 116, 95, 117, 32, 108, 101, 95, 115, 32, 108, 101, 95, 117, 32, 103, 101, 95, 115, 32, 103, 101, 95, 117]⟩)), (4, 1, (.int .i64 1))]) fun t24_23 =>
 M.bind (bd [(.int .i64 0), (.int .i64 0), (.str ⟨#[]⟩), (.str ⟨#[]⟩), (.int .i64 0)] [(0, 1, (.int .i64 80)), (1, 1, (.int .i64 11)), (2, 1, (.str ⟨#[105, 54, 52, 46]⟩)), (3, 1, (.str ⟨#[101, 113, 122, 32, 101, 113, 32, 110, 101, 32, 108, 116, 95, 115, 32, 108, 116, 95, 117, 32, 103, 116, 95, 115, 32, 103, 116, 95, 117, 32, 108, 101, 95, 115, 32, 108, 101, 95, 117, 32, 103, 101, 95, 115, 32, 103, 101, 95, 117]⟩)), (4, 1, (.int .i64 1))]) fun t25_24 =>
 M.bind (bd [(.int .i64 0), (.int .i64 0), (.str ⟨#[]⟩), (.str ⟨#[]⟩), (.int .i64 0)] [(0, 1, (.int .i64 91)), (1, 1, (.int .i64 6)), (2, 1, (.str ⟨#[102, 51, 50, 46]⟩)), (3, 1, (.str ⟨#[101, 113, 32, 110, 101, 32, 108, 116, 32, 103, 116, 32, 108, 101, 32, 103, 101]⟩)), (4, 1, (.int .i64 1))]) fun t26_25 =>
 M.bind (bd [(.int .i64 0), (.int .i64 0), (.str ⟨#[]⟩), (.str ⟨#[]⟩), (.int .i64 0)] [(0, 1, (.int .i64 97)), (1, 1, (.int .i64 6)), (2, 1, (.str ⟨#[102, 54, 52, 46]⟩)), (3, 1, (.str ⟨#[101, 113, 32, 110, 101, 32, 108, 116, 32, 103, 116, 32, 108, 101, 32, 103, 101]⟩)), (4, 1, (.int .i64 1))]) fun t27_26 =>
 M.bind (bd [(.int .i64 0), (.int .i64 0), (.str ⟨#[]⟩), (.str ⟨#[]⟩), (.int .i64 0)] [(0, 1, (.int .i64 103)), (1, 1, (.int .i64 18)), (2, 1, (.str ⟨#[105, 51, 50, 46]⟩)), (3, 1, (.str ⟨#[99, 108, 122, 32, 99, 116, 122, 32, 112, 111, 112, 99, 110, 116, 32, 97, 100, 100, 32, 115, 117, 98, 32, 109, 117, 108, 32, 100, 105, 118, 95, 115, 32, 100, 105, 118, 95, 117, 32, 114, 101, 109, 95, 115, 32, 114, 101, 109, 95, 117, 32, 97, 110, 100, 32, 111, 114, 32, 120, 111, 114, 32, 115, 104, 108, 32, 115, 104, 114, 95, 115, 32, 115, 104, 114, 95, 117, 32, 114, 111, 116, 108, 32, 114, 111, 116, 114]⟩)), (4, 1, (.int .i64 1))]) fun t28_27 =>
 M.bind (bd [(.int .i64 0), (.int .i64 0), (.str ⟨#[]⟩), (.str ⟨#[]⟩), (.int .i64 0)] [(0, 1, (.int .i64 121)), (1, 1, (.int .i64 18)), (2, 1, (.str ⟨#[105, 54, 52, 46]⟩)), (3, 1, (.str ⟨#[99, 108, 122, 32, 99, 116, 122, 32, 112, 111, 112, 99, 110, 116, 32, 97, 100, 100, 32, 115, 117, 98, 32, 109, 117, 108, 32, 100, 105, 118, 95, 115, 32, 100, 105, 118, 95, 117, 32, 114, 101, 109, 95, 115, 32, 114, 101, 109, 95, 117, 32, 97, 110, 100, 32, 111, 114, 32, 120, 111, 114, 32, 115, 104, 108, 32, 115, 104, 114, 95, 115, 32, 115, 104, 114, 95, 117, 32, 114, 111, 116, 108, 32, 114, 111, 116, 114]⟩)), (4, 1, (.int .i64 1))]) fun t29_28 =>
 M.bind (bd [(.int .i64 0), (.int .i64 0), (.str ⟨#[]⟩), (.str ⟨#[]⟩), (.int .i64 0)] [(0, 1, (.int .i64 139)), (1, 1, (.int .i64 14)), (2, 1, (.str ⟨#[102, 51, 50, 46]⟩)), (3, 1, (.str ⟨#[97, 98, 115, 32, 110, 101, 103, 32, 99, 101, 105, 108, 32, 102, 108, 111, 111, 114, 32, 116, 114, 117, 110, 99, 32, 110, 101, 97, 114, 101, 115, 116, 32, 115, 113, 114, 116, 32, 97, 100, 100, 32, 115, 117, 98, 32, 109, 117, 108, 32, 100, 105, 118, 32, 109, 105, 110, 32, 109, 97, 120, 32, 99, 111, 112, 121, 115, 105, 103, 110]⟩)), (4, 1, (.int .i64 1))]) fun t30_29 =>
 M.bind (bd [(.int .i64 0), (.int .i64 0), (.str ⟨#[]⟩), (.str ⟨#[]⟩), (.int .i64 0)] [(0, 1, (.int .i64 153)), (1, 1, (.int .i64 14)), (2, 1, (.str ⟨#[102, 54, 52, 46]⟩)), (3, 1, (.str ⟨#[97, 98, 115, 32, 110, 101, 103, 32, 99, 101, 105, 108, 32, 102, 108, 111, 111, 114, 32, 116, 114, 117, 110, 99, 32, 110, 101, 97, 114, 101, 115, 116, 32, 115, 113, 114, 116, 32, 97, 100, 100, 32, 115, 117, 98, 32, 109, 117, 108, 32, 100, 105, 118, 32, 109, 105, 110, 32, 109, 97, 120, 32, 99, 111, 112, 121, 115, 105, 103, 110]⟩)), (4, 1, (.int .i64 1))]) fun t31_30 =>
 M.bind (bd [(.int .i64 0), (.int .i64 0), (.str ⟨#[]⟩), (.str ⟨#[]⟩), (.int .i64 0)] [(0, 1, (.int .i64 167)), (1, 1, (.int .i64 5)), (2, 1, (.str ⟨#[105, 51, 50, 46]⟩)), (3, 1, (.str ⟨#[119, 114, 97, 112, 95, 105, 54, 52, 32, 116, 114, 117, 110, 99, 95, 102, 51, 50, 95, 115, 32, 116, 114, 117, 110, 99, 95, 102, 51, 50, 95, 117, 32, 116, 114, 117, 110, 99, 95, 102, 54, 52, 95, 115, 32, 116, 114, 117, 110, 99, 95, 102, 54, 52, 95, 117]⟩)), (4, 1, (.int .i64 1))]) fun t32_31 =>
 M.bind (bd [(.int .i64 0), (.int .i64 0), (.str ⟨#[]⟩), (.str ⟨#[]⟩), (.int .i64 0)] [(0, 1, (.int .i64 172)), (1, 1, (.int .i64 6)), (2, 1, (.str ⟨#[105, 54, 52, 46]⟩)), (3, 1, (.str ⟨#[101, 120, 116, 101, 110, 100, 95, 105, 51, 50, 95, 115, 32, 101, 120, 116, 101, 110, 100, 95, 105, 51, 50, 95, 117, 32, 116, 114, 117, 110, 99, 95, 102, 51, 50, 95, 115, 32, 116, 114, 117, 110, 99, 95, 102, 51, 50, 95, 117, 32, 116, 114, 117, 110, 99, 95, 102, 54, 52, 95, 115, 32, 116, 114, 117, 110, 99, 95, 102, 54, 52, 95, 117]⟩)), (4, 1, (.int .i64 1))]) fun t33_32 =>
 M.bind (bd [(.int .i64 0), (.int .i64 0), (.str ⟨#[]⟩), (.str ⟨#[]⟩), (.int .i64 0)] [(0, 1, (.int .i64 178)), (1, 1, (.int .i64 5)), (2, 1, (.str ⟨#[102, 51, 50, 46]⟩)), (3, 1, (.str ⟨#[99, 111, 110, 118, 101, 114, 116, 95, 105, 51, 50, 95, 115, 32, 99, 111, 110, 118, 101, 114, 116, 95, 105, 51, 50, 95, 117, 32, 99, 111, 110, 118, 101, 114, 116, 95, 105, 54, 52, 95, 115, 32, 99, 111, 110, 118, 101, 114, 116, 95, 105, 54, 52, 95, 117, 32, 100, 101, 109, 111, 116, 101, 95, 102, 54, 52]⟩)), (4, 1, (.int .i64 1))]) fun t34_33 =>
 M.bind (bd [(.int .i64 0), (.int .i64 0), (.str ⟨#[]⟩), (.str ⟨#[]⟩), (.int .i64 0)] [(0, 1, (.int .i64 183)), (1, 1, (.int .i64 5)), (2, 1, (.str ⟨#[102, 54, 52, 46]⟩)), (3, 1, (.str ⟨#[99, 111, 110, 118, 101, 114, 116, 95, 105, 51, 50, 95, 115, 32, 99, 111, 110, 118, 101, 114, 116, 95, 105, 51, 50, 95, 117, 32, 99, 111, 110, 118, 101, 114, 116, 95, 105, 54, 52, 95, 115, 32, 99, 111, 110, 118, 101, 114, 116, 95, 105, 54, 52, 95, 117, 32, 112, 114, 111, 109, 111, 116, 101, 95, 102, 51, 50]⟩)), (4, 1, (.int .i64 1))]) fun t35_34 =>
 M.bind (bd [(.int .i64 0), (.int .i64 0), (.str ⟨#[]⟩), (.str ⟨#[]⟩), (.int .i64 0)] [(0, 1, (.int .i64 188)), (1, 1, (.int .i64 4)), (2, 1, (.str ⟨#[]⟩)), (3, 1, (.str ⟨#[105, 51, 50, 46, 114, 101, 105, 110, 116, 101, 114, 112, 114, 101, 116, 95, 102, 51, 50, 32, 105, 54, 52, 46, 114, 101, 105, 110, 116, 101, 114, 112, 114, 101, 116, 95, 102, 54, 52, 32, 102, 51, 50, 46, 114, 101, 105, 110, 116, 101, 114, 112, 114, 101, 116, 95, 105, 51, 50, 32, 102, 54, 52, 46, 114, 101, 105, 110, 116, 101, 114, 112, 114, 101, 116, 95, 105, 54, 52]⟩)), (4, 1, (.int .i64 1))]) fun t36_35 =>
 M.bind (bd [(.int .i64 0), (.int .i64 0), (.str ⟨#[]⟩), (.str ⟨#[]⟩), (.int .i64 0)] [(0, 1, (.int .i64 192)), (1, 1, (.int .i64 5)), (2, 1, (.str ⟨#[]⟩)), (3, 1, (.str ⟨#[105, 51, 50, 46, 101, 120, 116, 101, 110, 100, 56, 95, 115, 32, 105, 51, 50, 46, 101, 120, 116, 101, 110, 100, 49, 54, 95, 115, 32, 105, 54, 52, 46, 101, 120, 116, 101, 110, 100, 56, 95, 115, 32, 105, 54, 52, 46, 101, 120, 116, 101, 110, 100, 49, 54, 95, 115, 32, 105, 54, 52, 46, 101, 120, 116, 101, 110, 100, 51, 50, 95, 115]⟩)), (4, 1, (.int .i64 1))]) fun t37_36 =>
 M.bind (bs true (some 5) [t1_0, t2_1, t3_2, t4_3, t5_4, t6_5, t7_6, t8_7, t9_8, t10_9, t11_10, t12_11, t13_12, t14_13, t15_14, t16_15, t17_16, t18_17, t19_18, t20_19, t21_20, t22_21, t23_22, t24_23, t25_24, t26_25, t27_26, t28_27, t29_28, t30_29, t31_30, t32_31, t33_32, t34_33, t35_34, t36_35, t37_36]) fun t38_37 =>
 resT t38_37 (M.pure t38_37)) := by
 rw [C, callW_eq _ _ rfl]; kernel_rfl
theorem instr_others_eq : C k_instr_others [] =
 trunc (M.bind (bd [(.int .i64 0), (.int .i64 0), (.str ⟨#[]⟩), (.str ⟨#[]⟩), (.int .i64 0)] [(0, 1, (.int .i64 208)), (1, 1, (.int .i64 1)), (2, 1, (.str ⟨#[]⟩)), (3, 1, (.str ⟨#[114, 101, 102, 46, 110, 117, 108, 108]⟩)), (4, 1, (.int .i64 13))]) fun t1_0 =>
 M.bind (bd [(.int .i64 0), (.int .i64 0), (.str ⟨#[]⟩), (.str ⟨#[]⟩), (.int .i64 0)] [(0, 1, (.int .i64 209)), (1, 1, (.int .i64 1)), (2, 1, (.str ⟨#[]⟩)), (3, 1, (.str ⟨#[114, 101, 102, 46, 105, 115, 95, 110, 117, 108, 108]⟩)), (4, 1, (.int .i64 1))]) fun t2_1 =>
 M.bind (bd [(.int .i64 0), (.int .i64 0), (.str ⟨#[]⟩), (.str ⟨#[]⟩), (.int .i64 0)] [(0, 1, (.int .i64 210)), (1, 1, (.int .i64 1)), (2, 1, (.str ⟨#[]⟩)), (3, 1, (.str ⟨#[114, 101, 102, 46, 102, 117, 110, 99]⟩)), (4, 1, (.int .i64 4))]) fun t3_2 =>
 M.bind (bd [(.int .i64 0), (.int .i64 0), (.str ⟨#[]⟩), (.str ⟨#[]⟩), (.int .i64 0)] [(0, 1, (.int .i64 211)), (1, 1, (.int .i64 2)), (2, 1, (.str ⟨#[]⟩)), (3, 1, (.str ⟨#[114, 101, 102, 46, 101, 113, 32, 114, 101, 102, 46, 97, 115, 95, 110, 111, 110, 95, 110, 117, 108, 108]⟩)), (4, 1, (.int .i64 1))]) fun t4_3 =>
 M.bind (bd [(.int .i64 0), (.int .i64 0), (.str ⟨#[]⟩), (.str ⟨#[]⟩), (.int .i64 0)] [(0, 1, (.int .i64 213)), (1, 1, (.int .i64 2)), (2, 1, (.str ⟨#[]⟩)), (3, 1, (.str ⟨#[98, 114, 95, 111, 110, 95, 110, 117, 108, 108, 32, 98, 114, 95, 111, 110, 95, 110, 111, 110, 95, 110, 117, 108, 108]⟩)), (4, 1, (.int .i64 4))]) fun t5_4 =>
 M.bind (bd [(.int .i64 0), (.int .i64 0), (.str ⟨#[]⟩), (.str ⟨#[]⟩), (.int .i64 0)] [(0, 1, (.int .i64 64256)), (1, 1, (.int .i64 2)), (2, 1, (.str ⟨#[]⟩)), (3, 1, (.str ⟨#[115, 116, 114, 117, 99, 116, 46, 110, 101, 119, 32, 115, 116, 114, 117, 99, 116, 46, 110, 101, 119, 95, 100, 101, 102, 97, 117, 108, 116]⟩)), (4, 1, (.int .i64 4))]) fun t6_5 =>
 M.bind (bd [(.int .i64 0), (.int .i64 0), (.str ⟨#[]⟩), (.str ⟨#[]⟩), (.int .i64 0)] [(0, 1, (.int .i64 64258)), (1, 1, (.int .i64 4)), (2, 1, (.str ⟨#[]⟩)), (3, 1, (.str ⟨#[115, 116, 114, 117, 99, 116, 46, 103, 101, 116, 32, 115, 116, 114, 117, 99, 116, 46, 103, 101, 116, 95, 115, 32, 115, 116, 114, 117, 99, 116, 46, 103, 101, 116, 95, 117, 32, 115, 116, 114, 117, 99, 116, 46, 115, 101, 116]⟩)), (4, 1, (.int .i64 5))]) fun t7_6 =>
 M.bind (bd [(.int .i64 0), (.int .i64 0), (.str ⟨#[]⟩), (.str ⟨#[]⟩), (.int .i64 0)] [(0, 1, (.int .i64 64262)), (1, 1, (.int .i64 2)), (2, 1, (.str ⟨#[]⟩)), (3, 1, (.str ⟨#[97, 114, 114, 97, 121, 46, 110, 101, 119, 32, 97, 114, 114, 97, 121, 46, 110, 101, 119, 95, 100, 101, 102, 97, 117, 108, 116]⟩)), (4, 1, (.int .i64 4))]) fun t8_7 =>
 M.bind (bd [(.int .i64 0), (.int .i64 0), (.str ⟨#[]⟩), (.str ⟨#[]⟩), (.int .i64 0)] [(0, 1, (.int .i64 64264)), (1, 1, (.int .i64 1)), (2, 1, (.str ⟨#[]⟩)), (3, 1, (.str ⟨#[97, 114, 114, 97, 121, 46, 110, 101, 119, 95, 102, 105, 120, 101, 100]⟩)), (4, 1, (.int .i64 16))]) fun t9_8 =>
 M.bind (bd [(.int .i64 0), (.int .i64 0), (.str ⟨#[]⟩), (.str ⟨#[]⟩), (.int .i64 0)] [(0, 1, (.int .i64 64265)), (1, 1, (.int .i64 2)), (2, 1, (.str ⟨#[]⟩)), (3, 1, (.str ⟨#[97, 114, 114, 97, 121, 46, 110, 101, 119, 95, 100, 97, 116, 97, 32, 97, 114, 114, 97, 121, 46, 110, 101, 119, 95, 101, 108, 101, 109]⟩)), (4, 1, (.int .i64 5))]) fun t10_9 =>
 M.bind (bd [(.int .i64 0), (.int .i64 0), (.str ⟨#[]⟩), (.str ⟨#[]⟩), (.int .i64 0)] [(0, 1, (.int .i64 64267)), (1, 1, (.int .i64 4)), (2, 1, (.str ⟨#[]⟩)), (3, 1, (.str ⟨#[97, 114, 114, 97, 121, 46, 103, 101, 116, 32, 97, 114, 114, 97, 121, 46, 103, 101, 116, 95, 115, 32, 97, 114, 114, 97, 121, 46, 103, 101, 116, 95, 117, 32, 97, 114, 114, 97, 121, 46, 115, 101, 116]⟩)), (4, 1, (.int .i64 4))]) fun t11_10 =>
 M.bind (bd [(.int .i64 0), (.int .i64 0), (.str ⟨#[]⟩), (.str ⟨#[]⟩), (.int .i64 0)] [(0, 1, (.int .i64 64271)), (1, 1, (.int .i64 1)), (2, 1, (.str ⟨#[]⟩)), (3, 1, (.str ⟨#[97, 114, 114, 97, 121, 46, 108, 101, 110]⟩)), (4, 1, (.int .i64 1))]) fun t12_11 =>
 M.bind (bd [(.int .i64 0), (.int .i64 0), (.str ⟨#[]⟩), (.str ⟨#[]⟩), (.int .i64 0)] [(0, 1, (.int .i64 64272)), (1, 1, (.int .i64 1)), (2, 1, (.str ⟨#[]⟩)), (3, 1, (.str ⟨#[97, 114, 114, 97, 121, 46, 102, 105, 108, 108]⟩)), (4, 1, (.int .i64 4))]) fun t13_12 =>
 M.bind (bd [(.int .i64 0), (.int .i64 0), (.str ⟨#[]⟩), (.str ⟨#[]⟩), (.int .i64 0)] [(0, 1, (.int .i64 64273)), (1, 1, (.int .i64 3)), (2, 1, (.str ⟨#[]⟩)), (3, 1, (.str ⟨#[97, 114, 114, 97, 121, 46, 99, 111, 112, 121, 32, 97, 114, 114, 97, 121, 46, 105, 110, 105, 116, 95, 100, 97, 116, 97, 32, 97, 114, 114, 97, 121, 46, 105, 110, 105, 116, 95, 101, 108, 101, 109]⟩)), (4, 1, (.int .i64 5))]) fun t14_13 =>
 M.bind (bd [(.int .i64 0), (.int .i64 0), (.str ⟨#[]⟩), (.str ⟨#[]⟩), (.int .i64 0)] [(0, 1, (.int .i64 64276)), (1, 1, (.int .i64 4)), (2, 1, (.str ⟨#[]⟩)), (3, 1, (.str ⟨#[114, 101, 102, 46, 116, 101, 115, 116, 32, 114, 101, 102, 46, 116, 101, 115, 116, 95, 110, 117, 108, 108, 32, 114, 101, 102, 46, 99, 97, 115, 116, 32, 114, 101, 102, 46, 99, 97, 115, 116, 95, 110, 117, 108, 108]⟩)), (4, 1, (.int .i64 14))]) fun t15_14 =>
 M.bind (bd [(.int .i64 0), (.int .i64 0), (.str ⟨#[]⟩), (.str ⟨#[]⟩), (.int .i64 0)] [(0, 1, (.int .i64 64280)), (1, 1, (.int .i64 2)), (2, 1, (.str ⟨#[]⟩)), (3, 1, (.str ⟨#[98, 114, 95, 111, 110, 95, 99, 97, 115, 116, 32, 98, 114, 95, 111, 110, 95, 99, 97, 115, 116, 95, 102, 97, 105, 108]⟩)), (4, 1, (.int .i64 15))]) fun t16_15 =>
 M.bind (bd [(.int .i64 0), (.int .i64 0), (.str ⟨#[]⟩), (.str ⟨#[]⟩), (.int .i64 0)] [(0, 1, (.int .i64 64282)), (1, 1, (.int .i64 5)), (2, 1, (.str ⟨#[]⟩)), (3, 1, (.str ⟨#[97, 110, 121, 46, 99, 111, 110, 118, 101, 114, 116, 95, 101, 120, 116, 101, 114, 110, 32, 101, 120, 116, 101, 114, 110, 46, 99, 111, 110, 118, 101, 114, 116, 95, 97, 110, 121, 32, 114, 101, 102, 46, 105, 51, 49, 32, 105, 51, 49, 46, 103, 101, 116, 95, 115, 32, 105, 51, 49, 46, 103, 101, 116, 95, 117]⟩)), (4, 1, (.int .i64 1))]) fun t17_16 =>
 M.bind (bd [(.int .i64 0), (.int .i64 0), (.str ⟨#[]⟩), (.str ⟨#[]⟩), (.int .i64 0)] [(0, 1, (.int .i64 64512)), (1, 1, (.int .i64 8)), (2, 1, (.str ⟨#[]⟩)), (3, 1, (.str ⟨#[105, 51, 50, 46, 116, 114, 117, 110, 99, 95, 115, 97, 116, 95, 102, 51, 50, 95, 115, 32, 105, 51, 50, 46, 116, 114, 117, 110, 99, 95, 115, 97, 116, 95, 102, 51, 50, 95, 117, 32, 105, 51, 50, 46, 116, 114, 117, 110, 99, 95, 115, 97, 116, 95, 102, 54, 52, 95, 115, 32, 105, 51, 50, 46, 116, 114, 117, 110, 99, 95, 115, 97, 116, 95, 102, 54, 52, 95, 117, 32, 105, 54, 52, 46, 116, 114, 117, 110, 99, 95, 115, 97, 116, 95, 102, 51, 50, 95, 115, 32, 105, 54, 52, 46, 116, 114, 117, 110, 99, 95, 115, 97, 116, 95, 102, 51, 50, 95, 117, 32, 105, 54, 52, 46, 116, 114, 117, 110, 99, 95, 115, 97, 116, 95, 102, 54, 52, 95, 115, 32, 105, 54, 52, 46, 116, 114, 117, 110, 99, 95, 115, 97, 116, 95, 102, 54, 52, 95, 117]⟩)), (4, 1, (.int .i64 1))]) fun t18_17 =>
 M.bind (bd [(.int .i64 0), (.int .i64 0), (.str ⟨#[]⟩), (.str ⟨#[]⟩), (.int .i64 0)] [(0, 1, (.int .i64 64520)), (1, 1, (.int .i64 1)), (2, 1, (.str ⟨#[]⟩)), (3, 1, (.str ⟨#[109, 101, 109, 111, 114, 121, 46, 105, 110, 105, 116]⟩)), (4, 1, (.int .i64 5))]) fun t19_18 =>
 M.bind (bd [(.int .i64 0), (.int .i64 0), (.str ⟨#[]⟩), (.str ⟨#[]⟩), (.int .i64 0)] [(0, 1, (.int .i64 64521)), (1, 1, (.int .i64 1)), (2, 1, (.str ⟨#[]⟩)), (3, 1, (.str ⟨#[100, 97, 116, 97, 46, 100, 114, 111, 112]⟩)), (4, 1, (.int .i64 4))]) fun t20_19 =>
 M.bind (bd [(.int .i64 0), (.int .i64 0), (.str ⟨#[]⟩), (.str ⟨#[]⟩), (.int .i64 0)] [(0, 1, (.int .i64 64522)), (1, 1, (.int .i64 1)), (2, 1, (.str ⟨#[]⟩)), (3, 1, (.str ⟨#[109, 101, 109, 111, 114, 121, 46, 99, 111, 112, 121]⟩)), (4, 1, (.int .i64 5))]) fun t21_20 =>
 M.bind (bd [(.int .i64 0), (.int .i64 0), (.str ⟨#[]⟩), (.str ⟨#[]⟩), (.int .i64 0)] [(0, 1, (.int .i64 64523)), (1, 1, (.int .i64 1)), (2, 1, (.str ⟨#[]⟩)), (3, 1, (.str ⟨#[109, 101, 109, 111, 114, 121, 46, 102, 105, 108, 108]⟩)), (4, 1, (.int .i64 4))]) fun t22_21 =>
 M.bind (bd [(.int .i64 0), (.int .i64 0), (.str ⟨#[]⟩), (.str ⟨#[]⟩), (.int .i64 0)] [(0, 1, (.int .i64 64524)), (1, 1, (.int .i64 1)), (2, 1, (.str ⟨#[]⟩)), (3, 1, (.str ⟨#[116, 97, 98, 108, 101, 46, 105, 110, 105, 116]⟩)), (4, 1, (.int .i64 5))]) fun t23_22 =>
 M.bind (bd [(.int .i64 0), (.int .i64 0), (.str ⟨#[]⟩), (.str ⟨#[]⟩), (.int .i64 0)] [(0, 1, (.int .i64 64525)), (1, 1, (.int .i64 1)), (2, 1, (.str ⟨#[]⟩)), (3, 1, (.str ⟨#[101, 108, 101, 109, 46, 100, 114, 111, 112]⟩)), (4, 1, (.int .i64 4))]) fun t24_23 =>
 M.bind (bd [(.int .i64 0), (.int .i64 0), (.str ⟨#[]⟩), (.str ⟨#[]⟩), (.int .i64 0)] [(0, 1, (.int .i64 64526)), (1, 1, (.int .i64 1)), (2, 1, (.str ⟨#[]⟩)), (3, 1, (.str ⟨#[116, 97, 98, 108, 101, 46, 99, 111, 112, 121]⟩)), (4, 1, (.int .i64 5))]) fun t25_24 =>
 M.bind (bd [(.int .i64 0), (.int .i64 0), (.str ⟨#[]⟩), (.str ⟨#[]⟩), (.int .i64 0)] [(0, 1, (.int .i64 64527)), (1, 1, (.int .i64 3)), (2, 1, (.str ⟨#[]⟩)), (3, 1, (.str ⟨#[116, 97, 98, 108, 101, 46, 103, 114, 111, 119, 32, 116, 97, 98, 108, 101, 46, 115, 105, 122, 101, 32, 116, 97, 98, 108, 101, 46, 102, 105, 108, 108]⟩)), (4, 1, (.int .i64 4))]) fun t26_25 =>
 M.bind (bs true (some 5) [t1_0, t2_1, t3_2, t4_3, t5_4, t6_5, t7_6, t8_7, t9_8, t10_9, t11_10, t12_11, t13_12, t14_13, t15_14, t16_15, t17_16, t18_17, t19_18, t20_19, t21_20, t22_21, t23_22, t24_23, t25_24, t26_25]) fun t27_26 =>
 resT t27_26 (M.pure t27_26)) := by
 rw [C, callW_eq _ _ rfl]; kernel_rfl
end Go.Proofs.Ythidcpkcfoldmaa.Pi.Q
