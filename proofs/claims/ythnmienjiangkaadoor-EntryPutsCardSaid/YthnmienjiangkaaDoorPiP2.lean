/- What the law rests on, part 3 of 4: a reading of the program's code over told data, and what it comes to. -/
import Derived.Test.YthnmienjiangkaaDoorPiP1
set_option linter.unusedVariables false
set_option linter.unusedSimpArgs false
set_option maxRecDepth 100000
namespace Go.Proofs.YthnmienjiangkaaDoor.Pi
variable {P : Program} {X : ExtT} {H : Heap}
def XSound (P : Program) (X : ExtT) : Prop :=
  ∀ f m, X f = some m → ∀ args H out, m args H = some out → u4j P f = true ∧ ∀ g w cargs, Inv g H w → ArgsOk g args cargs → Calls P f cargs w (u43 g w out)
theorem ulf (hX : XSound P X) (n : Nat) : CSound P (sem P X n).C ∧ ugl P (sem P X n).CD := by
  induction n using Nat.strongRecOn with
  | _ n ih =>
    cases n with
    | zero => exact ⟨fun f args H out h => (u01 (H := H) h).elim, fun rv f args H out h => (u01 (H := H) h).elim⟩
    | succ n =>
      have hn := ih n (Nat.lt_succ_self n)
      refine ⟨fun f args H out h => ?_, fun rv f args H out h => udn hn.1 h⟩
      have h : (match X f with | some m => m args | none => fnDen P (sem P X n).C (sem P X n).CD (sem P X n).L f args) H = some out := h
      cases hf : X f with
      | some m => rw [hf] at h; exact hX f m hf args H out h
      | none =>
        rw [hf] at h
        exact ugw hn.1 hn.2 (fun fn => ujv n (fun m hm => (ih m (by omega)).1) _ _ _ (fun m hm r f a => ul3 m r f a (by omega)) n (Nat.le_refl n)) h
theorem uhd (hX : XSound P X) : CSound P (callW P X) := by
  intro f args H out h
  obtain ⟨n, hn⟩ := ((ub7 P X f args).lim H out).mp h
  exact (ulf hX n).1 f args H out hn
theorem noX : XSound P (fun _ => none) := fun f m h => by cases h
end Go.Proofs.YthnmienjiangkaaDoor.Pi
namespace Go.Proofs.YthnmienjiangkaaDoor.Pi
noncomputable def kAt (c : Ctx) (L : LoopT) : List Nat → List Tmp → Code → K → List Tmp × Code × K
  | [], af, co, k => (af, co, k)
  | 0 :: p, af, .seq a b, k => kAt c L p ((rw b).1 ++ af) a fun
    | .normal, env' => bif c.rc.isNone && joinB a then L af b (keep ((rw b).1 ++ af) env') k else den c L af b env' k
    | e, env' => k e env'
  | _ :: p, af, .seq a b, k => kAt c L p af b k
  | 0 :: p, af, .cond _ a b, k => kAt c L p af a k
  | _ :: p, af, .cond _ a b, k => kAt c L p af b k
  | _ :: p, af, .block id b, k => kAt c L p af b fun
    | .exit i, env' => bif i == id then k .normal env' else k (.exit i) env'
    | e, env' => k e env'
  | _ :: p, af, .loop b, k => kAt c L p (alive af b) b fun
    | .normal, env' => L af (.loop b) (keep (alive af b) env') k
    | e, env' => k e env'
  | _, af, co, k => (af, co, k)
section
variable (P : Program) (X : ExtT)
noncomputable def kOf (f : FuncId) (p : List Nat) : List Tmp × Code × K :=
  match P.funcs[f]? with
  | some fn => match fn.body with
    | some b => kAt (ctxW P X none (protOf fn) (resM P fn)) (loopW P X none (protOf fn) (resM P fn)) p (u8m fn) b fun
      | .exit _, _ => M.fail
      | _, env => resM P fn env
    | none => ([], .skip, fun _ _ => M.fail)
  | none => ([], .skip, fun _ _ => M.fail)
noncomputable def ctxOf (f : FuncId) : Ctx :=
  match P.funcs[f]? with
  | some fn => ctxW P X none (protOf fn) (resM P fn)
  | none => ctxW P X none [] (fun _ => M.fail)
noncomputable def atP (f : FuncId) (p : List Nat) (env : Env) : M PV :=
  loopW P X none (ctxOf P X f).prot (ctxOf P X f).res (kOf P X f p).1 (kOf P X f p).2.1 env (kOf P X f p).2.2
noncomputable def stepP (f : FuncId) (p : List Nat) (env : Env) : M PV :=
  go1 (ctxW P X none (ctxOf P X f).prot (ctxOf P X f).res) (loopW P X none (ctxOf P X f).prot (ctxOf P X f).res) (kOf P X f p).1 (kOf P X f p).2.1 env (kOf P X f p).2.2
theorem u17 (f : FuncId) (p : List Nat) (env : Env) : atP P X f p env = stepP P X f p env := unn P X none _ _ _ _ _ _
def mkEnv : Nat → Nat → List (Nat × PV) → Env
  | 0, _, _ => []
  | n + 1, i, (j, v) :: r => bif i == j then v :: mkEnv n (i + 1) r else .undef :: mkEnv n (i + 1) ((j, v) :: r)
  | n + 1, i, [] => .undef :: mkEnv n (i + 1) []
end
end Go.Proofs.YthnmienjiangkaaDoor.Pi
namespace Go.Proofs.YthnmienjiangkaaDoor.Pi
theorem nrfl {γ : Sort _} {a b : γ} (h : a = b) : a = b := h
variable {α β : Type} {H : Heap} {k : IntKind} {a b n m : Int} {x y : PV} {ek : EqK}
theorem u78 {m : M α} {f : α → M β} {v : α} {H' : Heap} (h : m H = some (.ok v H')) : M.bind m f H = f v H' := by unfold M.bind; rw [h]
@[simp] theorem ug3 : strip (.int k n) = .int k n := nrfl rfl
@[simp] theorem ucf {t : Bool} : strip (.bool t) = .bool t := nrfl rfl
@[simp] theorem ufs {s : ByteArray} : strip (.str s) = .str s := nrfl rfl
@[simp] theorem uat {o z : Bool} {sz : Nat} {xs : List PV} : strip (.slice o z sz xs) = .slice false z sz xs := nrfl rfl
@[simp] theorem ue7 {i o : Nat} : strip (.ptr i o) = .ptr i o := nrfl rfl
@[simp] theorem uf6 {cs : List PV} : strip (.agg cs) = .agg cs := nrfl rfl
@[simp] theorem ubm {cs : List PV} : strip (.elem cs) = .elem cs := nrfl rfl
@[simp] theorem udv : strip .nil = .nil := nrfl rfl
@[simp] theorem u75 : strip .niliface = .niliface := nrfl rfl
@[simp] theorem uab {t : TypeId} {v : PV} : strip (.iface t v) = .iface t v := nrfl rfl
@[simp] theorem uhq {f : FuncId} {u v : List PV} : strip (.fn f u v) = .fn f u v := nrfl rfl
@[simp] theorem ub0 : strip .undef = .undef := nrfl rfl
@[simp] theorem uf8 {vs : List PV} : strip (.tup vs) = .tup (vs.map stripC) := nrfl rfl
@[simp] theorem ubj : stripC (.int k n) = .int k n := nrfl rfl
@[simp] theorem uac {t : Bool} : stripC (.bool t) = .bool t := nrfl rfl
@[simp] theorem uby {s : ByteArray} : stripC (.str s) = .str s := nrfl rfl
@[simp] theorem u8s {o z : Bool} {sz : Nat} {xs : List PV} : stripC (.slice o z sz xs) = .slice false z sz xs := nrfl rfl
@[simp] theorem uc8 {i o : Nat} : stripC (.ptr i o) = .ptr i o := nrfl rfl
@[simp] theorem ucc {cs : List PV} : stripC (.agg cs) = .agg cs := nrfl rfl
@[simp] theorem uc4 : stripC .nil = .nil := nrfl rfl
@[simp] theorem u66 : stripC .niliface = .niliface := nrfl rfl
@[simp] theorem u8q {t : TypeId} {v : PV} : stripC (.iface t v) = .iface t v := nrfl rfl
@[simp] theorem uez {f : FuncId} {u v : List PV} : stripC (.fn f u v) = .fn f u v := nrfl rfl
@[simp] theorem bi_add : bi .add ek (.int k a) (.int k b) = M.pure (.int k (k.wrap (a + b))) := nrfl (by cases k <;> rfl)
@[simp] theorem bi_sub : bi .sub ek (.int k a) (.int k b) = M.pure (.int k (k.wrap (a - b))) := nrfl (by cases k <;> rfl)
@[simp] theorem bi_mul : bi .mul ek (.int k a) (.int k b) = M.pure (.int k (k.wrap (a * b))) := nrfl (by cases k <;> rfl)
@[simp] theorem bi_eql : bi .eql ek (.int k a) (.int k b) = M.pure (.bool (a == b)) := nrfl (by cases k <;> rfl)
@[simp] theorem bi_neq : bi .neq ek (.int k a) (.int k b) = M.pure (.bool (a != b)) := nrfl (by cases k <;> rfl)
@[simp] theorem bi_lss : bi .lss ek (.int k a) (.int k b) = M.pure (.bool (decide (a < b))) := nrfl (by cases k <;> rfl)
@[simp] theorem bi_leq : bi .leq ek (.int k a) (.int k b) = M.pure (.bool (decide (a ≤ b))) := nrfl (by cases k <;> rfl)
@[simp] theorem bi_gtr : bi .gtr ek (.int k a) (.int k b) = M.pure (.bool (decide (a > b))) := nrfl (by cases k <;> rfl)
@[simp] theorem bi_geq : bi .geq ek (.int k a) (.int k b) = M.pure (.bool (decide (a ≥ b))) := nrfl (by cases k <;> rfl)
@[simp] theorem ukv {s t : ByteArray} : bi .eql ek (.str s) (.str t) = M.pure (.bool (s.toList == t.toList)) := nrfl rfl
@[simp] theorem um6 {s t : ByteArray} : bi .neq ek (.str s) (.str t) = M.pure (.bool (!(s.toList == t.toList))) := nrfl rfl
@[simp] theorem uke {s t : Bool} : bi .eql .bool (.bool s) (.bool t) = M.pure (.bool (s == t)) := nrfl rfl
@[simp] theorem un7 {s t : Bool} : bi .neq .bool (.bool s) (.bool t) = M.pure (.bool (!(s == t))) := nrfl rfl
@[simp] theorem un_not {t : Bool} : un .not (.bool t) = M.pure (.bool (!t)) := nrfl rfl
@[simp] theorem uep {o z : Bool} {sz : Nat} {xs : List PV} : lnL (.slice o z sz xs) = M.pure (.int .i64 xs.length) := nrfl rfl
@[simp] theorem ul9 {s : ByteArray} : lnS (.str s) = M.pure (.int .i64 s.size) := nrfl rfl
@[simp] theorem mx_int : mx (.int k a) (.int k b) = M.pure (.int k (if b > a then b else a)) := nrfl (by cases k <;> rfl)
@[simp] theorem mn_int : mn (.int k a) (.int k b) = M.pure (.int k (if b < a then b else a)) := nrfl (by cases k <;> rfl)
@[simp] theorem cv_int {o : Bool} {j : IntKind} : cv (.int k) o (.int j n) = M.pure (.int k (k.wrap n)) := nrfl rfl
@[simp] theorem uqa {v : PV} {r : List PV} : ex 0 (.tup (v :: r)) = M.pure v := nrfl rfl
@[simp] theorem uqc {u v : PV} {r : List PV} : ex 1 (.tup (u :: v :: r)) = M.pure v := nrfl rfl
@[simp] theorem uqb {t u v : PV} {r : List PV} : ex 2 (.tup (t :: u :: v :: r)) = M.pure v := nrfl rfl
end Go.Proofs.YthnmienjiangkaaDoor.Pi
namespace Go.Proofs.YthnmienjiangkaaDoor.Pi
variable {P : Program} {X : ExtT}
def gOf (im : Nat → Nat → Option Value) : G := ⟨[], im, fun _ => none⟩
theorem upc {im : Nat → Nat → Option Value} {w : World} (him : ∀ b o v, im b o = some v → w.cell? ⟨b, o, none⟩ = some v) (hg : GlobOk im) : Inv (gOf im) [] w :=
  ⟨rfl, fun i j b h => by simp [gOf] at h, him, fun b L s h => by simp [gOf] at h, fun id b y h => by simp [gOf] at h, hg⟩
theorem walk_law (hX : XSound P X) {f : FuncId} {args : List PV} {H' : Heap} (h : callW P X f args [] = some (.ok (.bool true) H')) {im : Nat → Nat → Option Value} {w : World} {cargs : Array Value}
    (him : ∀ b o v, im b o = some v → w.cell? ⟨b, o, none⟩ = some v) (ha : ArgsOk (gOf im) args cargs) (hg : GlobOk im) : Calls P f cargs w fun e w' => e = .returned (.bool true) ∧ RowKit.Below w.heap.size w w' := by
  obtain ⟨_, hs⟩ := uhd hX f args [] _ h
  refine (hs (gOf im) w cargs (upc him hg) ha).mono ?_
  rintro e w' ⟨g', hgl, hgr, cv, rfl, hi, hr⟩
  have hv : cv = .bool true := by
    cases hr with
    | one hr => cases hr with
      | pure hr => cases hr with
        | flat hr => cases hr; rfl
  subst hv
  exact ⟨rfl, hgl.os, hgl.tape, hgl.output, hgl.size, fun k hk => (hgl.old k hk rfl (by simp [gOf])).2.2⟩
end Go.Proofs.YthnmienjiangkaaDoor.Pi
namespace Go.Proofs.YthnmienjiangkaaDoor.Pi
variable {α β : Type} {H : Heap} {k j : IntKind} {a b n m : Int} {x y : PV} {ek : EqK}
def resT (v : PV) (m : M PV) : M PV := bif isTup v then M.fail else m
def hget (H : Heap) (id : Nat) : Option Box := H[id]?
def hset (H : Heap) (id : Nat) (b : Box) : Heap := H.set id b
def hadd (H : Heap) (L : List Box) : Heap := H ++ L
def hcut (H : Heap) (n : Nat) : Heap := H.take n
abbrev hlen (H : Heap) : Nat := List.length H
def run (m : M α) (H : Heap) : Option (Out α) := m H
def bindR (r : Option (Out α)) (f : α → M β) : Option (Out β) :=
  match r with
  | none => none
  | some (.ok v H) => run (f v) H
  | some (.pan v H) => some (.pan v H)
def truncR (H : Heap) (r : Option (Out PV)) : Option (Out PV) :=
  match r with
  | none => none
  | some (.ok v H') => some (.ok v (bif v.low H.length then hcut H' H.length else H'))
  | some (.pan v H') => bif v.low H.length then some (.pan v (hcut H' H.length)) else none
noncomputable def nbR (H : Heap) (r : Option (Out α)) (f : α → M β) : Option (Out β) := nb (fun _ => r) f H
@[congr] theorem upw {r r' : Option (Out α)} {f : α → M β} (h : r = r') : bindR r f = bindR r' f := by rw [h]
@[congr] theorem uq8 {r r' : Option (Out α)} {f : α → M β} (h : r = r') : nbR H r f = nbR H r' f := by rw [h]
@[congr] theorem upq {c c' : PV} {x y : M α} (h : c = c') : condM c x y = condM c' x y := by rw [h]
@[congr] theorem up3 {c c' : Bool} {x : M α} (h : c = c') : guardM c x = guardM c' x := by rw [h]
@[congr] theorem uq5 {c c' : PV} {x : M PV} (h : c = c') : resT c x = resT c' x := by rw [h]
theorem run_bind {m : M α} {f : α → M β} : run (M.bind m f) H = bindR (run m H) f := nrfl rfl
theorem uia {f : α → M β} {v : α} {H : Heap} : bindR (some (.ok v H)) f = run (f v) H := nrfl rfl
theorem uck {f : α → M β} : bindR none f = none := nrfl rfl
theorem udk {f : α → M β} {v : PV} {H : Heap} : bindR (some (.pan v H)) f = some (.pan v H) := nrfl rfl
theorem ufz {c : Prop} [Decidable c] {r r' : Option (Out α)} {f : α → M β} : bindR (if c then r else r') f = if c then bindR r f else bindR r' f := by split <;> rfl
theorem run_nb {m : M α} {f : α → M β} : run (nb m f) H = nbR H (run m H) f := nrfl rfl
theorem nbR_ok {f : α → M β} {v : α} : nbR H (some (.ok v H)) f = run (f v) H := by simp [nbR, nb, run]
theorem un2 {c : Prop} [Decidable c] {r r' : Option (Out α)} {f : α → M β} : nbR H (if c then r else r') f = if c then nbR H r f else nbR H r' f := by split <;> rfl
theorem uam {m : M PV} : run (trunc m) H = truncR H (run m H) := nrfl rfl
theorem uci {c : Prop} [Decidable c] {r r' : Option (Out PV)} : truncR H (if c then r else r') = if c then truncR H r else truncR H r' := by split <;> rfl
theorem u9r : truncR H none = none := nrfl rfl
theorem udy {v : PV} {H' : Heap} : truncR H (some (.ok v H')) = some (.ok v (if v.low H.length = true then hcut H' H.length else H')) := by
  show some (Out.ok v (bif v.low H.length then hcut H' H.length else H')) = _
  cases v.low H.length <;> rfl
theorem u86 {v : PV} {H' : Heap} : truncR H (some (.pan v H')) = if v.low H.length = true then some (.pan v (hcut H' H.length)) else none := by
  show (bif v.low H.length then some (Out.pan v (hcut H' H.length)) else none) = _
  cases v.low H.length <;> rfl
theorem ue9 {c : Bool} {m : M α} : run (guardM c m) H = if c = true then run m H else none := by cases c <;> rfl
theorem ujh {v : PV} {m : M PV} : run (resT v m) H = if isTup v = true then none else run m H := by unfold resT; cases isTup v <;> rfl
theorem uj9 {c : Bool} {x y : M α} : run (condM (.bool c) x y) H = if c = true then run x H else run y H := by cases c <;> rfl
theorem ukf {c : Bool} {m : M PV} : run (gd (.bool c) true m) H = if c = true then run m H else some (.ok (.tup []) H) := by cases c <;> rfl
theorem un6 {c : Bool} {m : M PV} : run (gd (.bool c) false m) H = if c = true then some (.ok (.tup []) H) else run m H := by cases c <;> rfl
theorem ucn : strip (.tup []) = .tup [] := nrfl rfl
theorem ult {b : Bool} {m : M PV} : run (gd (.tup []) b m) H = some (.ok (.tup []) H) := nrfl rfl
theorem ujf {c : Bool} : run (pick (.bool c) x y) H = if c = true then some (.ok (strip x) H) else some (.ok (strip y) H) := by cases c <;> rfl
theorem run_pure {v : α} : run (M.pure v) H = some (.ok v H) := nrfl rfl
theorem ukk {v : PV} : run (M.pan v : M α) H = some (.pan v H) := nrfl rfl
theorem ujb : run (M.fail : M α) H = none := nrfl rfl
theorem run_al {cs : List PV} : run (al cs) H = if cs.all isCell = true then some (.ok (.ptr H.length 0) (hadd H [.cells cs])) else none := by unfold run al; cases cs.all isCell <;> rfl
theorem run_bx {n : Nat} {v : PV} : run (bx n v) H = if (v.cells.map stripC).length = n ∧ lowL (H.length + 1) (v.cells.map stripC) = true ∧ v.cells.all isCell = true then some (.ok (.ptr H.length 0) (hadd H [.cells (v.cells.map stripC)])) else none := by
  unfold run bx
  cases h1 : ((v.cells.map stripC).length == n) <;> cases h2 : lowL (H.length + 1) (v.cells.map stripC) <;> cases h3 : v.cells.all isCell <;> simp_all [hadd]
theorem u73 (a b : Nat) : (a == b) = decide (a = b) := by rw [Bool.eq_iff_iff]; simp
def ldB (n : Option Nat) (mv : Bool) (id o : Nat) (H : Heap) : Option Box → Option (Out PV)
  | some (.cells cs) => match n with
      | none => match cs[o]? with
        | some v => bif mv then some (.ok v (hset H id (.cells (cs.set o (stripC v))))) else some (.ok (stripC v) H)
        | none => none
      | some n => bif decide (o + n ≤ cs.length) then some (.ok (.agg (((cs.drop o).take n).map stripC)) H) else none
  | _ => none
theorem run_ld {n : Option Nat} {mv : Bool} {id o : Nat} : run (ld n mv (.ptr id o)) H = ldB n mv id o H (hget H id) := by
  unfold run ld ldB
  rfl
def stB (n : Nat) (mv : Bool) (id o : Nat) (v : PV) (H : Heap) : Option Box → Option (Out PV)
  | some (.cells cs) => bif v.cells.length == n && (decide (o + n ≤ cs.length) && (lowL (id + 1) v.cells && v.cells.all isCell)) then
        some (.ok .undef (hset H id (.cells (fillAt o (bif mv then v.cells else v.cells.map stripC) cs))))
      else none
  | _ => none
theorem run_st {n : Nat} {mv : Bool} {id o : Nat} {v : PV} : run (st n mv (.ptr id o) v) H = stB n mv id o v H (hget H id) := by
  unfold run st stB
  rfl
theorem uj0 {n : Nat} {mv : Bool} {id o : Nat} {cs : List PV} : ldB (some n) mv id o H (some (.cells cs)) = if o + n ≤ cs.length then some (.ok (.agg (((cs.drop o).take n).map stripC)) H) else none := by
  show (bif decide (o + n ≤ cs.length) then some (Out.ok (PV.agg (((cs.drop o).take n).map stripC)) H) else none) = _
  by_cases h : o + n ≤ cs.length <;> simp [h]
def nth : List α → Nat → Option α
  | [], _ => none
  | v :: _, 0 => some v
  | _ :: r, n + 1 => nth r n
theorem uhm {v : α} {r : List α} : nth (v :: r) 0 = some v := nrfl rfl
theorem uhg {v : α} {r : List α} {n : Nat} : nth (v :: r) (n + 1) = nth r n := nrfl rfl
theorem nth_is : ∀ (l : List α) (n : Nat), l[n]? = nth l n
  | [], _ => rfl
  | _ :: _, 0 => rfl
  | _ :: r, n + 1 => nth_is r n
def ldTR (H : Heap) (id : Nat) (cs : List PV) (o : Nat) : Option PV → Option (Out PV)
  | some v => some (.ok v (hset H id (.cells (cs.set o (stripC v)))))
  | none => none
def ldFR (H : Heap) : Option PV → Option (Out PV)
  | some v => some (.ok (stripC v) H)
  | none => none
theorem ufq {id : Nat} {cs : List PV} {o : Nat} {v : PV} : ldTR H id cs o (some v) = some (.ok v (hset H id (.cells (cs.set o (stripC v))))) := nrfl rfl
theorem uf0 {v : PV} : ldFR H (some v) = some (.ok (stripC v) H) := nrfl rfl
theorem ldB_t {id o : Nat} {cs : List PV} : ldB none true id o H (some (.cells cs)) = ldTR H id cs o (nth cs o) := by
  rw [← nth_is]; rfl
theorem ldB_f {id o : Nat} {cs : List PV} : ldB none false id o H (some (.cells cs)) = ldFR H (nth cs o) := by
  rw [← nth_is]; rfl
theorem stB_is {n : Nat} {mv : Bool} {id o : Nat} {v : PV} {cs : List PV} :
    stB n mv id o v H (some (.cells cs)) = if v.cells.length = n ∧ o + n ≤ cs.length ∧ lowL (id + 1) v.cells = true ∧ v.cells.all isCell = true then some (.ok .undef (hset H id (.cells (fillAt o (if mv = true then v.cells else v.cells.map stripC) cs)))) else none := by
  show (bif v.cells.length == n && (decide (o + n ≤ cs.length) && (lowL (id + 1) v.cells && v.cells.all isCell)) then some (Out.ok PV.undef (hset H id (.cells (fillAt o (bif mv then v.cells else v.cells.map stripC) cs)))) else none) = _
  cases hb : v.cells.all isCell <;> cases hc : lowL (id + 1) v.cells <;> by_cases h1 : v.cells.length = n <;> by_cases h2 : o + n ≤ cs.length <;> cases mv <;> simp [h1, h2, u73 (v.cells.length) n]
theorem ujg {mv : Bool} {cs : List PV} {c : PV} : run (ld none mv (.elem (c :: cs))) H = some (.ok c H) := nrfl rfl
theorem uhp {mv : Bool} {n : Nat} {cs : List PV} : run (ld (some n) mv (.elem cs)) H = if n ≤ cs.length then some (.ok (.agg (cs.take n)) H) else none := by
  show (bif decide (n ≤ cs.length) then M.pure (PV.agg (cs.take n)) else M.fail) H = _
  by_cases h : n ≤ cs.length <;> simp [h, M.pure, M.fail]
theorem ud5 {L : List Box} (k : Nat) : hget (hadd H L) (H.length + k) = nth L k := by unfold hget hadd; rw [List.getElem?_append_right (Nat.le_add_right _ _), Nat.add_sub_cancel_left, nth_is]
theorem ud6 {L : List Box} : hget (hadd H L) H.length = nth L 0 := ud5 0
theorem ugo {L : List Box} {i : Nat} (h : i < H.length) : hget (hadd H L) i = hget H i := List.getElem?_append_left h
theorem udi {L : List Box} {x : Box} (k : Nat) : hset (hadd H L) (H.length + k) x = hadd H (L.set k x) := by unfold hset hadd; rw [List.set_append_right _ _ (Nat.le_add_right _ _), Nat.add_sub_cancel_left]
theorem ui7 {L : List Box} {x : Box} : hset (hadd H L) H.length x = hadd H (L.set 0 x) := udi 0
theorem ugz {L : List Box} {i : Nat} {x : Box} (h : i < H.length) : hset (hadd H L) i x = hadd (hset H i x) L := List.set_append_left _ _ h
theorem ug8 {i : Nat} {x : Box} (h : i < H.length) : hget (hset H i x) i = some x := by unfold hget hset; rw [List.getElem?_set_self h]
theorem ujm {i k : Nat} {x : Box} (h : i ≠ k) : hget (hset H i x) k = hget H k := List.getElem?_set_ne h
theorem set_set {i : Nat} {x y : Box} : hset (hset H i x) i y = hset H i y := List.set_set _
theorem u7j {L K : List Box} : hadd (hadd H L) K = hadd H (L ++ K) := List.append_assoc _ _ _
theorem uh1 {A L : List Box} {n : Nat} (h : n = A.length) : hcut (hadd A L) n = A := by subst h; simp [hcut, hadd]
theorem ugj {A : List Box} {n : Nat} (h : n = A.length) : hcut A n = A := by subst h; simp [hcut]
theorem cut0 : hcut H H.length = H := ugj rfl
theorem cut1 {i : Nat} {x : Box} : hcut (hset H i x) H.length = hset H i x := ugj (by unfold hset; simp)
theorem cut2 {i j : Nat} {x y : Box} : hcut (hset (hset H i x) j y) H.length = hset (hset H i x) j y := ugj (by unfold hset; simp)
theorem cutA0 {L : List Box} : hcut (hadd H L) H.length = H := uh1 rfl
theorem cutA1 {L : List Box} {i : Nat} {x : Box} : hcut (hadd (hset H i x) L) H.length = hset H i x := uh1 (by unfold hset; simp)
theorem cutA2 {L : List Box} {i j : Nat} {x y : Box} : hcut (hadd (hset (hset H i x) j y) L) H.length = hset (hset H i x) j y := uh1 (by unfold hset; simp)
theorem u4u {L : List Box} : List.length (hadd H L) = H.length + L.length := List.length_append
theorem u6e {i : Nat} {x : Box} : List.length (hset H i x) = H.length := List.length_set
theorem u9c {L : List Box} {i : Nat} {y : Box} (k : Nat) : hget (hadd (hset H i y) L) (H.length + k) = nth L k := by
  have := ud5 (H := hset H i y) (L := L) k
  rwa [u6e] at this
theorem u9w {L : List Box} {i : Nat} {y : Box} : hget (hadd (hset H i y) L) H.length = nth L 0 := u9c 0
theorem u9l {L : List Box} {i : Nat} {x y : Box} (k : Nat) : hset (hadd (hset H i y) L) (H.length + k) x = hadd (hset H i y) (L.set k x) := by
  have := udi (H := hset H i y) (L := L) (x := x) k
  rwa [u6e] at this
theorem uao {L : List Box} {i : Nat} {x y : Box} : hset (hadd (hset H i y) L) H.length x = hadd (hset H i y) (L.set 0 x) := u9l 0
theorem u9k {L : List Box} {i j : Nat} {y : Box} (h : i < H.length) : hget (hadd (hset H j y) L) i = hget (hset H j y) i := ugo (by rw [u6e]; exact h)
theorem ud2 {L : List Box} {i j : Nat} {x y : Box} (h : i < H.length) : hset (hadd (hset H j y) L) i x = hadd (hset (hset H j y) i x) L := ugz (by rw [u6e]; exact h)
theorem w_i64 (h : -9223372036854775808 ≤ n ∧ n ≤ 9223372036854775807) : IntKind.i64.wrap n = n := by rw [IntKind.wrap_i64]; omega
theorem w_u64 (h : 0 ≤ n ∧ n ≤ 18446744073709551615) : IntKind.u64.wrap n = n := by simp only [IntKind.wrap, IntKind.signed, IntKind.bits]; simp; omega
theorem w_u8 (h : 0 ≤ n ∧ n ≤ 255) : IntKind.u8.wrap n = n := by rw [IntKind.wrap_u8]; omega
theorem w_u32 (h : 0 ≤ n ∧ n ≤ 4294967295) : IntKind.u32.wrap n = n := by rw [IntKind.wrap_u32]; omega
theorem w_i32 (h : -2147483648 ≤ n ∧ n ≤ 2147483647) : IntKind.i32.wrap n = n := by rw [IntKind.wrap_i32]; omega
theorem upj (h : 0 ≤ b) : bi .shl ek (.int k a) (.int j b) = M.pure (.int k (k.wrap (a * 2 ^ shiftN k b))) := by
  have : ¬ b < 0 := by omega
  simp [bi, this]
theorem uge (h : 0 ≤ b) : bi .shr ek (.int k a) (.int j b) = M.pure (.int k (a.fdiv (2 ^ shiftN k b))) := by
  have : ¬ b < 0 := by omega
  simp [bi, this]
theorem umk (h : b ≠ 0) : bi .quo ek (.int k a) (.int k b) = M.pure (.int k (k.wrap (a.tdiv b))) := by
  have h' : (b == 0) = false := by simpa using h
  cases k <;> simp [bi, intOp, h']
theorem umg (h : b ≠ 0) : bi .rem ek (.int k a) (.int k b) = M.pure (.int k (a.tmod b)) := by
  have h' : (b == 0) = false := by simpa using h
  cases k <;> simp [bi, intOp, h']
theorem ucw : bi .and ek (.int k a) (.int k b) = M.pure (.int k (k.wrap (BitVec.ofInt k.bits a &&& BitVec.ofInt k.bits b).toNat)) := by cases k <;> rfl
theorem run_or : bi .or ek (.int k a) (.int k b) = M.pure (.int k (k.wrap (BitVec.ofInt k.bits a ||| BitVec.ofInt k.bits b).toNat)) := by cases k <;> rfl
def iaR (H : Heap) : Option PV → Option (Out PV)
  | some x => some (.ok (.elem x.cells) H)
  | none => none
theorem uje {x : PV} : iaR H (some x) = some (.ok (.elem x.cells) H) := nrfl rfl
theorem ugy {o z : Bool} {sz : Nat} {xs : List PV} (h0 : 0 ≤ n) : run (iaS sz (.slice o z sz xs) (.int k n)) H = iaR H xs[n.toNat]? := by
  unfold iaS iaR run
  have h' : decide (0 ≤ n) = true := by simpa using h0
  simp only [h', beq_self_eq_true, Bool.and_self, cond_true, u2v, M.fail, M.pure]
  split <;> rename_i h <;> simp only [h] <;> rfl
theorem run_fa {off id o : Nat} : fa off (.ptr id o) = M.pure (.ptr id (o + off)) := nrfl rfl
theorem umz {off : Nat} {cs : List PV} : fa off (.elem cs) = M.pure (.elem (cs.drop off)) := nrfl rfl
theorem udj {P : Program} {C : CallT} {f : FuncId} {u v args : List PV} : callV P C (.fn f u v) args = C f (u ++ args ++ v) := nrfl rfl
theorem nc_ptr {P : Program} {i o : Nat} : nc P (.ptr i o) = M.pure (.ptr i o) := nrfl rfl
theorem un1 {P : Program} {cs : List PV} : nc P (.elem cs) = M.pure (.elem cs) := nrfl rfl
theorem nc_nil {P : Program} : nc P .nil = M.pan (nilDeref P) := nrfl rfl
theorem run_mi {t : TypeId} {v : PV} : run (mi t v) H = if isVal v = true then some (.ok (.iface t (stripC v)) H) else none := by
  unfold run mi
  cases isVal v <;> rfl
theorem run_pn {t : TypeId} {v : PV} : pn (.iface t v) = M.pan (.iface t v) := nrfl rfl
theorem ulm {o : Bool} : cv (.int k) o (.int j n) = M.pure (.int k (k.wrap n)) := nrfl rfl
theorem ul0 {v : PV} {r : List PV} : ex 0 (.tup (v :: r)) = M.pure v := nrfl rfl
theorem um3 {u v : PV} {r : List PV} : ex 1 (.tup (u :: v :: r)) = M.pure v := nrfl rfl
theorem ukn {u v x : PV} {r : List PV} : ex 2 (.tup (u :: v :: x :: r)) = M.pure x := nrfl rfl
theorem uj4 {v : PV} {r : List PV} : tupDrop 0 (.tup (v :: r)) = .tup (stripC v :: r) := nrfl rfl
theorem uhe {u v : PV} {r : List PV} : tupDrop 1 (.tup (u :: v :: r)) = .tup (u :: stripC v :: r) := nrfl rfl
theorem uip {u v x : PV} {r : List PV} : tupDrop 2 (.tup (u :: v :: x :: r)) = .tup (u :: v :: stripC x :: r) := nrfl rfl
section
variable {c d : Bool} {s : ByteArray} {i o : Nat} {cs ds : List PV} {N : Nat}
theorem uft : isTup (.int k n) = false := nrfl rfl
theorem ubn : isCell (.int k n) = true := nrfl rfl
theorem ufw : isVal (.int k n) = true := nrfl rfl
theorem uen : isPtr (.int k n) = false := nrfl rfl
theorem ufl : PV.cells (.int k n) = [(.int k n)] := nrfl rfl
theorem udc : PV.low N (.int k n) = true := by simp only [PV.low]
theorem ucj : isTup (.bool c) = false := nrfl rfl
theorem ub6 : isCell (.bool c) = true := nrfl rfl
theorem uce : isVal (.bool c) = true := nrfl rfl
theorem ubi : isPtr (.bool c) = false := nrfl rfl
theorem ucd : PV.cells (.bool c) = [(.bool c)] := nrfl rfl
theorem ucv : PV.low N (.bool c) = true := by simp only [PV.low]
theorem ug2 : isTup (.str s) = false := nrfl rfl
theorem ubt : isCell (.str s) = true := nrfl rfl
theorem ug0 : isVal (.str s) = true := nrfl rfl
theorem ufm : isPtr (.str s) = false := nrfl rfl
theorem uea : PV.cells (.str s) = [(.str s)] := nrfl rfl
theorem uhc : PV.low N (.str s) = true := by simp only [PV.low]
theorem ue1 : isTup .nil = false := nrfl rfl
theorem ubv : isCell .nil = true := nrfl rfl
theorem ue2 : isVal .nil = true := nrfl rfl
theorem ue3 : isPtr .nil = false := nrfl rfl
theorem ueb : PV.cells .nil = [.nil] := nrfl rfl
theorem uli : PV.low N .nil = true := by simp only [PV.low]
theorem ufa : isTup (.ptr i o) = false := nrfl rfl
theorem ubs : isCell (.ptr i o) = true := nrfl rfl
theorem ufg : isVal (.ptr i o) = true := nrfl rfl
theorem ue5 : isPtr (.ptr i o) = true := nrfl rfl
theorem ug1 : PV.cells (.ptr i o) = [(.ptr i o)] := nrfl rfl
theorem umr : PV.low N (.ptr i o) = decide (i < N) := by simp only [PV.low]
theorem ubq : isTup (.elem cs) = false := nrfl rfl
theorem ub2 : isCell (.elem cs) = true := nrfl rfl
theorem uc3 : isVal (.elem cs) = true := nrfl rfl
theorem ubp : isPtr (.elem cs) = false := nrfl rfl
theorem ubk : PV.cells (.elem cs) = [(.elem cs)] := nrfl rfl
theorem uhh : PV.low N (.elem cs) = true := by simp only [PV.low]
theorem uak : isTup (.slice c d i cs) = false := nrfl rfl
theorem u93 : isCell (.slice c d i cs) = true := nrfl rfl
theorem uau : isVal (.slice c d i cs) = true := nrfl rfl
theorem ubb : isPtr (.slice c d i cs) = false := nrfl rfl
theorem ua8 : PV.cells (.slice c d i cs) = [(.slice c d i cs)] := nrfl rfl
theorem u7w : PV.low N (.slice c d i cs) = true := by simp only [PV.low]
theorem uic : isTup (.fn i cs ds) = false := nrfl rfl
theorem ues : isCell (.fn i cs ds) = true := nrfl rfl
theorem ui5 : isVal (.fn i cs ds) = true := nrfl rfl
theorem uid : isPtr (.fn i cs ds) = false := nrfl rfl
theorem uj2 : PV.cells (.fn i cs ds) = [(.fn i cs ds)] := nrfl rfl
theorem low_fn : PV.low N (.fn i cs ds) = (lowL N cs && lowL N ds) := by simp only [PV.low]
theorem uax : isTup .nilfn = false := nrfl rfl
theorem u8t : isCell .nilfn = true := nrfl rfl
theorem u9p : isVal .nilfn = true := nrfl rfl
theorem uaa : isPtr .nilfn = false := nrfl rfl
theorem ua7 : PV.cells .nilfn = [.nilfn] := nrfl rfl
theorem uff : PV.low N .nilfn = true := by simp only [PV.low]
theorem ua1 : isTup (.iface i x) = false := nrfl rfl
theorem u8z : isCell (.iface i x) = true := nrfl rfl
theorem uar : isVal (.iface i x) = true := nrfl rfl
theorem ua4 : isPtr (.iface i x) = false := nrfl rfl
theorem ua6 : PV.cells (.iface i x) = [(.iface i x)] := nrfl rfl
theorem uag : PV.low N (.iface i x) = x.low N := by simp only [PV.low]
theorem u70 : isTup .niliface = false := nrfl rfl
theorem u62 : isCell .niliface = true := nrfl rfl
theorem u72 : isVal .niliface = true := nrfl rfl
theorem u74 : isPtr .niliface = false := nrfl rfl
theorem u6y : PV.cells .niliface = [.niliface] := nrfl rfl
theorem u8u : PV.low N .niliface = true := by simp only [PV.low]
theorem udo : isTup (.agg cs) = false := nrfl rfl
theorem ucl : isCell (.agg cs) = false := nrfl rfl
theorem uef : isVal (.agg cs) = true := nrfl rfl
theorem ueq : isPtr (.agg cs) = false := nrfl rfl
theorem ufv : PV.cells (.agg cs) = cs := nrfl rfl
theorem ugd : PV.low N (.agg cs) = lowL N cs := by simp only [PV.low]
theorem udl : isTup (.tup cs) = true := nrfl rfl
theorem uc6 : isCell (.tup cs) = false := nrfl rfl
theorem uej : isVal (.tup cs) = false := nrfl rfl
theorem uet : isPtr (.tup cs) = false := nrfl rfl
theorem ufj : PV.cells (.tup cs) = [(.tup cs)] := nrfl rfl
theorem ugk : PV.low N (.tup cs) = lowL N cs := by simp only [PV.low]
theorem uas : isTup .undef = false := nrfl rfl
theorem u8v : isCell .undef = false := nrfl rfl
theorem u9o : isVal .undef = false := nrfl rfl
theorem ub4 : isPtr .undef = false := nrfl rfl
theorem uaz : PV.cells .undef = [.undef] := nrfl rfl
theorem uel : PV.low N .undef = true := by simp only [PV.low]
end
theorem u97 {n : Nat} : lowL n [] = true := by simp only [lowL]
theorem u7x {n : Nat} {v : PV} {r : List PV} : lowL n (v :: r) = (v.low n && lowL n r) := by simp only [lowL]
def bdR (H : Heap) : Option (List PV) → Option (Out PV)
  | some cs => some (.ok (.agg cs) H)
  | none => none
theorem ui1 {cs : List PV} : bdR H (some cs) = some (.ok (.agg cs) H) := nrfl rfl
theorem run_bd {zero : List PV} {parts : List (Nat × Nat × PV)} : run (bd zero parts) H = bdR H (u3v parts zero) := by
  unfold run bd bdR
  cases u3v parts zero <;> rfl
theorem uaq {cs : List PV} : u3v [] cs = some cs := nrfl rfl
theorem u8r {off size : Nat} {v : PV} {r : List (Nat × Nat × PV)} {cs : List PV} : u3v ((off, size, v) :: r) cs = if v.cells.length = size ∧ off + size ≤ cs.length ∧ v.cells.all isCell = true then u3v r (fillAt off (v.cells.map stripC) cs) else none := by
  show (bif v.cells.length == size && (decide (off + size ≤ cs.length) && v.cells.all isCell) then u3v r (fillAt off (v.cells.map stripC) cs) else none) = _
  cases hb : v.cells.all isCell <;> by_cases h1 : v.cells.length = size <;> by_cases h2 : off + size ≤ cs.length <;> simp [h1, h2, hb, u73 (v.cells.length) size]
theorem uf5 {off : Nat} {vs cs : List PV} : fillAt off vs cs = cs.take off ++ vs ++ cs.drop (off + vs.length) := nrfl rfl
def bsR (own : Bool) (a : Option Nat) (vs : List PV) (H : Heap) : Option (Out PV) := if vs.all (u1x a) = true then some (.ok (.slice own false (a.getD 1) vs) H) else none
theorem run_bs {own : Bool} {a : Option Nat} {vs : List PV} : run (bs own a vs) H = bsR own a (vs.map stripC) H := by
  unfold run bs bsR
  cases ((vs.map stripC).all (u1x a)) <;> rfl
def noPanR : Option (Out PV) → Option (Out PV)
  | some (.ok v H) => some (.ok v H)
  | _ => none
theorem ubc {m : M PV} : run (noPan m) H = noPanR (run m H) := by
  unfold run noPan noPanR
  cases m H with
  | none => rfl
  | some q => cases q <;> rfl
theorem udw {v : PV} {H : Heap} : noPanR (some (.ok v H)) = some (.ok v H) := nrfl rfl
theorem uc0 {v : PV} {H : Heap} : noPanR (some (.pan v H)) = none := nrfl rfl
theorem ua3 : noPanR none = none := nrfl rfl
theorem uc7 {c : Prop} [Decidable c] {r r' : Option (Out PV)} : noPanR (if c then r else r') = if c then noPanR r else noPanR r' := by split <;> rfl
noncomputable def chkR (r r' : Option (Out α)) (x : M β) (H : Heap) : Option (Out β) := run (chk (fun _ => r) (fun _ => r') x) H
@[congr] theorem uq6 {r r' s s' : Option (Out α)} {x : M β} (h : r = s) (h' : r' = s') : chkR r r' x H = chkR s s' x H := by rw [h, h']
theorem ul8 {m m' : M α} {x : M β} : run (chk m m' x) H = chkR (run m H) (run m' H) x H := nrfl rfl
theorem uh7 {a : α} {K : Heap} {x : M β} : chkR (some (.ok a K)) (some (.ok a K)) x H = run x H := by
  simp [chkR, run, chk]
theorem ulk {i o : Nat} : tld (.ptr i o) = .ld i := nrfl rfl
theorem un3 {i o : Nat} : tst (.ptr i o) = .st i := nrfl rfl
theorem ui9 {cs : List PV} : tld (.elem cs) = .no := nrfl rfl
theorem uim {x : Touch} : clash .no x = false := nrfl rfl
theorem ufr {y : Touch} : clash y .no = false := by cases y <;> rfl
theorem uah {i j : Nat} : clash (.ld i) (.ld j) = false := nrfl rfl
theorem u9u {i j : Nat} : clash (.ld j) (.st i) = (i == j) := nrfl rfl
theorem ub3 {i j : Nat} : clash (.st j) (.ld i) = (i == j) := nrfl rfl
theorem u9x {i j : Nat} : clash (.st j) (.st i) = (i == j) := nrfl rfl
theorem u8y {i : Nat} : clash .any (.ld i) = false := nrfl rfl
theorem u8w {i : Nat} : clash (.ld i) .any = false := nrfl rfl
theorem u81 : clash .any .any = false := nrfl rfl
def defR (CD : Option PV → CallT) (f : FuncId) (args : List PV) (res : M PV) : Option (Out PV) → Option (Out PV)
  | none => none
  | some (.ok _ H) => bindR (run (CD none f args) H) (fun _ => res)
  | some (.pan v H) => bindR (run (CD (some v) f args) H) (fun r => match r with | .tup [] => res | _ => M.fail)
theorem uer {CD : Option PV → CallT} {f : FuncId} {u v args : List PV} {rest res : M PV} : run (deferM CD (.fn f u v) args rest res) H = defR CD f (u ++ args ++ v) res (run rest H) := by
  unfold run deferM defR
  dsimp only
  cases rest H with
  | none => rfl
  | some q => cases q <;> rfl
@[congr] theorem uq7 {CD : Option PV → CallT} {f : FuncId} {args : List PV} {res : M PV} {r r' : Option (Out PV)} (h : r = r') : defR CD f args res r = defR CD f args res r' := by rw [h]
theorem ufk {CD : Option PV → CallT} {f : FuncId} {args : List PV} {res : M PV} : defR CD f args res none = none := nrfl rfl
theorem ukr {CD : Option PV → CallT} {f : FuncId} {args : List PV} {res : M PV} {v : PV} : defR CD f args res (some (.ok v H)) = bindR (run (CD none f args) H) (fun _ => res) := nrfl rfl
theorem uig {CD : Option PV → CallT} {f : FuncId} {args : List PV} {res : M PV} {v : PV} : defR CD f args res (some (.pan v H)) = bindR (run (CD (some v) f args) H) (fun r => match r with | .tup [] => res | _ => M.fail) := nrfl rfl
theorem uio {CD : Option PV → CallT} {f : FuncId} {args : List PV} {res : M PV} {c : Prop} [Decidable c] {r r' : Option (Out PV)} : defR CD f args res (if c then r else r') = if c then defR CD f args res r else defR CD f args res r' := by split <;> rfl
end Go.Proofs.YthnmienjiangkaaDoor.Pi
namespace Go.Proofs.YthnmienjiangkaaDoor.Pi
def byt (c : UInt8) : PV := .int .u8 c.toNat
abbrev bytes (b : List UInt8) : List PV := b.map byt
abbrev BS (z : Bool) (b : List UInt8) : PV := .slice false z 1 (bytes b)
theorem uq1 {b : List UInt8} {k : Nat} (h : k < b.length) : (bytes b)[k]? = some (byt b[k]) := by simp [bytes, h]
theorem upb (n s x : Nat) (hn : n < 2 ^ s) : n ||| (x * 2 ^ s) = n + x * 2 ^ s := by
  rw [Nat.or_comm, Nat.mul_comm, ← Nat.two_pow_add_eq_or_of_lt hn, Nat.add_comm]
theorem bv_or {w a b : Nat} (ha : a < 2 ^ w) (hb : b < 2 ^ w) : (BitVec.ofInt w (a : Int) ||| BitVec.ofInt w (b : Int)).toNat = a ||| b := by
  rw [BitVec.toNat_or, BitVec.ofInt_natCast, BitVec.ofInt_natCast, BitVec.toNat_ofNat, BitVec.toNat_ofNat, Nat.mod_eq_of_lt ha, Nat.mod_eq_of_lt hb]
theorem bv_and {w a b : Nat} (ha : a < 2 ^ w) (hb : b < 2 ^ w) : (BitVec.ofInt w (a : Int) &&& BitVec.ofInt w (b : Int)).toNat = a &&& b := by
  rw [BitVec.toNat_and, BitVec.ofInt_natCast, BitVec.ofInt_natCast, BitVec.toNat_ofNat, BitVec.toNat_ofNat, Nat.mod_eq_of_lt ha, Nat.mod_eq_of_lt hb]
theorem and127 (a : Nat) (ha : a < 256) : IntKind.u8.wrap ((BitVec.ofInt IntKind.u8.bits (a : Int) &&& BitVec.ofInt IntKind.u8.bits 127).toNat : Int) = ((a % 128 : Nat) : Int) := by
  have e : (127 : Int) = ((127 : Nat) : Int) := rfl
  have h := bv_and (w := 8) (a := a) (b := 127) ha (by decide)
  rw [show IntKind.u8.bits = 8 from rfl, e, h, Nat.and_two_pow_sub_one_eq_mod a 7]
  exact w_u8 (by omega)
theorem ujz {s : Nat} (h : s ≤ 64) : shiftN .u64 (s : Int) = s := by unfold shiftN; rw [Int.toNat_natCast]; exact Nat.min_eq_left h
theorem uns {n x s : Nat} (hs : s ≤ 63) (hn : n < 2 ^ s) (hx : x * 2 ^ s < 2 ^ 64) :
    IntKind.u64.wrap ((BitVec.ofInt IntKind.u64.bits (n : Int) ||| BitVec.ofInt IntKind.u64.bits (IntKind.u64.wrap ((x : Int) * 2 ^ shiftN .u64 (s : Int)))).toNat : Int) = ((n + x * 2 ^ s : Nat) : Int) ∧ n + x * 2 ^ s < 2 ^ 64 := by
  have e1 : ((x : Int) * 2 ^ shiftN .u64 (s : Int)) = ((x * 2 ^ s : Nat) : Int) := by rw [ujz (by omega)]; simp
  have hle : 2 ^ s ≤ 2 ^ 63 := Nat.pow_le_pow_right (by omega) hs
  have hlt : n + x * 2 ^ s < 2 ^ 64 := by
    have e : (2 : Nat) ^ 64 = 2 ^ (64 - s) * 2 ^ s := by rw [← Nat.pow_add, Nat.sub_add_cancel (by omega)]
    rw [e] at hx ⊢
    have hx2 : x < 2 ^ (64 - s) := Nat.lt_of_mul_lt_mul_right hx
    have : (x + 1) * 2 ^ s ≤ 2 ^ (64 - s) * 2 ^ s := Nat.mul_le_mul_right _ hx2
    rw [Nat.add_mul] at this
    omega
  refine ⟨?_, hlt⟩
  rw [e1, w_u64 (n := ((x * 2 ^ s : Nat) : Int)) (by omega), show IntKind.u64.bits = 64 from rfl, bv_or (w := 64) (by omega) hx, upb n s x hn]
  exact w_u64 (by omega)
inductive Rs (α : Type) where
  | ok (v : α) (p : Nat)
  | err (p e : Nat)
end Go.Proofs.YthnmienjiangkaaDoor.Pi
namespace Go.Proofs.YthnmienjiangkaaDoor.Pi
theorem wi (x : Int) : IntKind.i64.wrap x = (x + 9223372036854775808) % 18446744073709551616 - 9223372036854775808 := by rw [IntKind.wrap_i64]
def okS (h c : Nat) : Prop := c < 128 ∧ (c / 2 ^ (h - 1) = 0 ∨ c / 2 ^ (h - 1) = 2 ^ (8 - h) - 1)
instance (h c : Nat) : Decidable (okS h c) := by unfold okS; infer_instance
theorem up6 (n : Int) : IntKind.u8.wrap n = n % 256 := by
  simp [IntKind.wrap, IntKind.bits, IntKind.signed]
end Go.Proofs.YthnmienjiangkaaDoor.Pi
namespace Go.Proofs.YthnmienjiangkaaDoor.Pi
open Go.ChangeShapes Go.WideShapes
def imOf (w : World) (b o : Nat) : Option Value := w.cell? ⟨b, o, none⟩
theorem imOf_ok (w : World) : ∀ b o v, imOf w b o = some v → w.cell? ⟨b, o, none⟩ = some v := fun _ _ _ h => h
end Go.Proofs.YthnmienjiangkaaDoor.Pi
namespace Go.Proofs.YthnmienjiangkaaDoor.Pi
theorem goDown : type_of% (And.intro (And.intro (And.intro (And.intro (And.intro @run_bind @uia) (And.intro @uck @udk)) (And.intro (And.intro @ufz
    @run_nb) (And.intro @nbR_ok @un2))) (And.intro (And.intro (And.intro @uam @uci) (And.intro @u9r @udy)) (And.intro
    (And.intro @u86 @ue9) (And.intro @ujh (And.intro @uj9 @ukf))))) (And.intro (And.intro (And.intro (And.intro @un6
    @ult) (And.intro @run_pure @ukk)) (And.intro (And.intro @ujb @ubc) (And.intro @udw @uc0))) (And.intro (And.intro
    (And.intro @ua3 @uc7) (And.intro @ul8 @uh7)) (And.intro (And.intro @uer @ufk) (And.intro @ukr (And.intro
    @uig @uio)))))) := (And.intro (And.intro (And.intro (And.intro (And.intro @run_bind @uia) (And.intro @uck @udk)) (And.intro (And.intro @ufz
    @run_nb) (And.intro @nbR_ok @un2))) (And.intro (And.intro (And.intro @uam @uci) (And.intro @u9r @udy)) (And.intro
    (And.intro @u86 @ue9) (And.intro @ujh (And.intro @uj9 @ukf))))) (And.intro (And.intro (And.intro (And.intro @un6
    @ult) (And.intro @run_pure @ukk)) (And.intro (And.intro @ujb @ubc) (And.intro @udw @uc0))) (And.intro (And.intro
    (And.intro @ua3 @uc7) (And.intro @ul8 @uh7)) (And.intro (And.intro @uer @ufk) (And.intro @ukr (And.intro
    @uig @uio))))))
theorem goUp : type_of% (And.intro (And.intro (And.intro (And.intro (And.intro (And.intro (And.intro @ucn (And.intro @ujf @run_al)) (And.intro (And.intro @run_bx
    @run_ld) (And.intro @run_st @uj0))) (And.intro (And.intro (And.intro @uhm @uhg) (And.intro @ufq @uf0)) (And.intro
    (And.intro @ldB_t @ldB_f) (And.intro @stB_is @ujg)))) (And.intro (And.intro (And.intro @uhp (And.intro @ud5 @ud6)) (And.intro
    (And.intro @ugo @udi) (And.intro @ui7 @ugz))) (And.intro (And.intro (And.intro @ug8 @set_set) (And.intro @u7j @cut0))
    (And.intro (And.intro @cut1 @cut2) (And.intro @cutA0 @cutA1))))) (And.intro (And.intro (And.intro (And.intro @cutA2 (And.intro @u4u @u6e))
    (And.intro (And.intro @w_i64 @w_u64) (And.intro @w_u8 @w_u32))) (And.intro (And.intro (And.intro @w_i32 @umk) (And.intro @umg @uje))
    (And.intro (And.intro @ugy @run_fa) (And.intro @umz @udj)))) (And.intro (And.intro (And.intro @nc_ptr (And.intro @un1 @nc_nil))
    (And.intro (And.intro @run_mi @run_pn) (And.intro @ulm @ul0))) (And.intro (And.intro (And.intro @um3 @ukn) (And.intro @uj4
    @uhe)) (And.intro (And.intro @uip @uft) (And.intro @ubn @ufw)))))) (And.intro (And.intro (And.intro (And.intro
    (And.intro @uen (And.intro @ufl @udc)) (And.intro (And.intro @ucj @ub6) (And.intro @uce @ubi)))
    (And.intro (And.intro (And.intro @ucd @ucv) (And.intro @ug2 @ubt)) (And.intro (And.intro @ug0 @ufm) (And.intro
    @uea @uhc)))) (And.intro (And.intro (And.intro @ue1 (And.intro @ubv @ue2)) (And.intro (And.intro @ue3
    @ueb) (And.intro @uli @ufa))) (And.intro (And.intro (And.intro @ubs @ufg) (And.intro @ue5 @ug1))
    (And.intro (And.intro @umr @ubq) (And.intro @ub2 @uc3))))) (And.intro (And.intro (And.intro (And.intro @ubp
    (And.intro @ubk @uhh)) (And.intro (And.intro @uak @u93) (And.intro @uau @ubb))) (And.intro (And.intro
    (And.intro @ua8 @u7w) (And.intro @uic @ues)) (And.intro (And.intro @ui5 @uid) (And.intro @uj2 @low_fn))))
    (And.intro (And.intro (And.intro @uax (And.intro @u8t @u9p)) (And.intro (And.intro @uaa @ua7) (And.intro
    @uff @ua1))) (And.intro (And.intro (And.intro @u8z @uar) (And.intro @ua4 @ua6)) (And.intro
    (And.intro @uag @u70) (And.intro @u62 @u72))))))) (And.intro (And.intro (And.intro (And.intro (And.intro
    (And.intro @u74 (And.intro @u6y @u8u)) (And.intro (And.intro @udo @ucl) (And.intro @uef
    @ueq))) (And.intro (And.intro (And.intro @ufv @ugd) (And.intro @udl @uc6)) (And.intro (And.intro @uej
    @uet) (And.intro @ufj @ugk)))) (And.intro (And.intro (And.intro @uas (And.intro @u8v @u9o)) (And.intro
    (And.intro @ub4 @uaz) (And.intro @uel @u97))) (And.intro (And.intro (And.intro @u7x @ui1) (And.intro @run_bd
    @uaq)) (And.intro (And.intro @u8r @uf5) (And.intro @run_bs @ulk))))) (And.intro (And.intro (And.intro (And.intro
    @un3 (And.intro @ui9 @uim)) (And.intro (And.intro @ufr @uah) (And.intro @u9u @ub3))) (And.intro
    (And.intro (And.intro @u9x @u8y) (And.intro @u8w @u81)) (And.intro (And.intro @ug3 @ucf)
    (And.intro @ufs @uat)))) (And.intro (And.intro (And.intro @ue7 (And.intro @uf6 @ubm)) (And.intro (And.intro
    @udv @u75) (And.intro @uab @uhq))) (And.intro (And.intro (And.intro @ub0 @uf8) (And.intro @ubj
    @uac)) (And.intro (And.intro @uby @u8s) (And.intro @uc8 @ucc)))))) (And.intro (And.intro (And.intro
    (And.intro (And.intro @uc4 (And.intro @u66 @u8q)) (And.intro (And.intro @uez @bi_add) (And.intro @bi_sub
    @bi_mul))) (And.intro (And.intro (And.intro @bi_eql @bi_neq) (And.intro @bi_lss @bi_leq)) (And.intro (And.intro @bi_gtr @bi_geq) (And.intro
    @ukv @um6)))) (And.intro (And.intro (And.intro @uke (And.intro @un7 @un_not)) (And.intro (And.intro @uep @ul9) (And.intro
    @mx_int @mn_int))) (And.intro (And.intro (And.intro @cv_int @Bool.and_true) (And.intro @Bool.true_and @Bool.and_self)) (And.intro (And.intro
    @Bool.not_true @Bool.not_false) (And.intro @Bool.and_false @Bool.false_and))))) (And.intro (And.intro (And.intro (And.intro @Bool.or_true
    (And.intro @Bool.or_false @Bool.true_or)) (And.intro (And.intro @Bool.false_or @Bool.false_eq_true) (And.intro @decide_eq_true_eq @and_self)))
    (And.intro (And.intro (And.intro @and_true @true_and) (And.intro @not_true_eq_false @not_false_eq_true)) (And.intro (And.intro @Nat.zero_add
    @Nat.add_zero) (And.intro @Nat.le_refl @Nat.lt_add_one)))) (And.intro (And.intro (And.intro (And.intro @Nat.lt_irrefl @and_false) (And.intro
    @false_and @Bool.not_eq_true')) (And.intro (And.intro @Bool.not_eq_eq_eq_not @decide_eq_false_iff_not) (And.intro @Bool.and_eq_true
    @Bool.or_eq_true))) (And.intro (And.intro (And.intro @decide_true @decide_false) (And.intro @u9c @u9w)) (And.intro (And.intro @u9l
    @uao) (And.intro @u9k @ud2)))))))) := (And.intro (And.intro (And.intro (And.intro (And.intro (And.intro (And.intro @ucn (And.intro @ujf @run_al)) (And.intro (And.intro @run_bx
    @run_ld) (And.intro @run_st @uj0))) (And.intro (And.intro (And.intro @uhm @uhg) (And.intro @ufq @uf0)) (And.intro
    (And.intro @ldB_t @ldB_f) (And.intro @stB_is @ujg)))) (And.intro (And.intro (And.intro @uhp (And.intro @ud5 @ud6)) (And.intro
    (And.intro @ugo @udi) (And.intro @ui7 @ugz))) (And.intro (And.intro (And.intro @ug8 @set_set) (And.intro @u7j @cut0))
    (And.intro (And.intro @cut1 @cut2) (And.intro @cutA0 @cutA1))))) (And.intro (And.intro (And.intro (And.intro @cutA2 (And.intro @u4u @u6e))
    (And.intro (And.intro @w_i64 @w_u64) (And.intro @w_u8 @w_u32))) (And.intro (And.intro (And.intro @w_i32 @umk) (And.intro @umg @uje))
    (And.intro (And.intro @ugy @run_fa) (And.intro @umz @udj)))) (And.intro (And.intro (And.intro @nc_ptr (And.intro @un1 @nc_nil))
    (And.intro (And.intro @run_mi @run_pn) (And.intro @ulm @ul0))) (And.intro (And.intro (And.intro @um3 @ukn) (And.intro @uj4
    @uhe)) (And.intro (And.intro @uip @uft) (And.intro @ubn @ufw)))))) (And.intro (And.intro (And.intro (And.intro
    (And.intro @uen (And.intro @ufl @udc)) (And.intro (And.intro @ucj @ub6) (And.intro @uce @ubi)))
    (And.intro (And.intro (And.intro @ucd @ucv) (And.intro @ug2 @ubt)) (And.intro (And.intro @ug0 @ufm) (And.intro
    @uea @uhc)))) (And.intro (And.intro (And.intro @ue1 (And.intro @ubv @ue2)) (And.intro (And.intro @ue3
    @ueb) (And.intro @uli @ufa))) (And.intro (And.intro (And.intro @ubs @ufg) (And.intro @ue5 @ug1))
    (And.intro (And.intro @umr @ubq) (And.intro @ub2 @uc3))))) (And.intro (And.intro (And.intro (And.intro @ubp
    (And.intro @ubk @uhh)) (And.intro (And.intro @uak @u93) (And.intro @uau @ubb))) (And.intro (And.intro
    (And.intro @ua8 @u7w) (And.intro @uic @ues)) (And.intro (And.intro @ui5 @uid) (And.intro @uj2 @low_fn))))
    (And.intro (And.intro (And.intro @uax (And.intro @u8t @u9p)) (And.intro (And.intro @uaa @ua7) (And.intro
    @uff @ua1))) (And.intro (And.intro (And.intro @u8z @uar) (And.intro @ua4 @ua6)) (And.intro
    (And.intro @uag @u70) (And.intro @u62 @u72))))))) (And.intro (And.intro (And.intro (And.intro (And.intro
    (And.intro @u74 (And.intro @u6y @u8u)) (And.intro (And.intro @udo @ucl) (And.intro @uef
    @ueq))) (And.intro (And.intro (And.intro @ufv @ugd) (And.intro @udl @uc6)) (And.intro (And.intro @uej
    @uet) (And.intro @ufj @ugk)))) (And.intro (And.intro (And.intro @uas (And.intro @u8v @u9o)) (And.intro
    (And.intro @ub4 @uaz) (And.intro @uel @u97))) (And.intro (And.intro (And.intro @u7x @ui1) (And.intro @run_bd
    @uaq)) (And.intro (And.intro @u8r @uf5) (And.intro @run_bs @ulk))))) (And.intro (And.intro (And.intro (And.intro
    @un3 (And.intro @ui9 @uim)) (And.intro (And.intro @ufr @uah) (And.intro @u9u @ub3))) (And.intro
    (And.intro (And.intro @u9x @u8y) (And.intro @u8w @u81)) (And.intro (And.intro @ug3 @ucf)
    (And.intro @ufs @uat)))) (And.intro (And.intro (And.intro @ue7 (And.intro @uf6 @ubm)) (And.intro (And.intro
    @udv @u75) (And.intro @uab @uhq))) (And.intro (And.intro (And.intro @ub0 @uf8) (And.intro @ubj
    @uac)) (And.intro (And.intro @uby @u8s) (And.intro @uc8 @ucc)))))) (And.intro (And.intro (And.intro
    (And.intro (And.intro @uc4 (And.intro @u66 @u8q)) (And.intro (And.intro @uez @bi_add) (And.intro @bi_sub
    @bi_mul))) (And.intro (And.intro (And.intro @bi_eql @bi_neq) (And.intro @bi_lss @bi_leq)) (And.intro (And.intro @bi_gtr @bi_geq) (And.intro
    @ukv @um6)))) (And.intro (And.intro (And.intro @uke (And.intro @un7 @un_not)) (And.intro (And.intro @uep @ul9) (And.intro
    @mx_int @mn_int))) (And.intro (And.intro (And.intro @cv_int @Bool.and_true) (And.intro @Bool.true_and @Bool.and_self)) (And.intro (And.intro
    @Bool.not_true @Bool.not_false) (And.intro @Bool.and_false @Bool.false_and))))) (And.intro (And.intro (And.intro (And.intro @Bool.or_true
    (And.intro @Bool.or_false @Bool.true_or)) (And.intro (And.intro @Bool.false_or @Bool.false_eq_true) (And.intro @decide_eq_true_eq @and_self)))
    (And.intro (And.intro (And.intro @and_true @true_and) (And.intro @not_true_eq_false @not_false_eq_true)) (And.intro (And.intro @Nat.zero_add
    @Nat.add_zero) (And.intro @Nat.le_refl @Nat.lt_add_one)))) (And.intro (And.intro (And.intro (And.intro @Nat.lt_irrefl @and_false) (And.intro
    @false_and @Bool.not_eq_true')) (And.intro (And.intro @Bool.not_eq_eq_eq_not @decide_eq_false_iff_not) (And.intro @Bool.and_eq_true
    @Bool.or_eq_true))) (And.intro (And.intro (And.intro @decide_true @decide_false) (And.intro @u9c @u9w)) (And.intro (And.intro @u9l
    @uao) (And.intro @u9k @ud2))))))))
theorem cr : (∀ {α : Type} {a : α} {l : List α}, (a :: l).length = l.length + 1) ∧ (∀ {α : Type}, ([] : List α).length = 0) ∧ (∀ {α β : Type} {f : α → β} {a : α} {l : List α}, (a :: l).map f = f a :: l.map f) ∧ (∀ {α β : Type} {f : α → β}, [].map f = []) ∧ (∀ {α : Type} {a : α} {l : List α} {i : Nat}, (a :: l).take (i + 1) = a :: l.take i) ∧ (∀ {α : Type} {l : List α}, l.take 0 = []) ∧ (∀ {α : Type} {a : α} {l : List α} {i : Nat}, (a :: l).drop (i + 1) = l.drop i) ∧ (∀ {α : Type} {l : List α}, l.drop 0 = l) ∧ (∀ {α : Type} {i : Nat}, ([] : List α).drop i = []) ∧ (∀ {α : Type} {i : Nat}, ([] : List α).take i = []) ∧ (∀ {α : Type} {a : α} {l k : List α}, a :: l ++ k = a :: (l ++ k)) ∧ (∀ {α : Type} {l : List α}, [] ++ l = l) ∧ (∀ {α : Type} {l : List α}, l ++ [] = l) ∧ (∀ {α : Type} {a b : α} {l : List α}, (a :: l).set 0 b = b :: l) ∧ (∀ {α : Type} {a b : α} {l : List α} {i : Nat}, (a :: l).set (i + 1) b = a :: l.set i b) ∧ (∀ {α : Type} {f : α → Bool} {a : α} {l : List α}, (a :: l).all f = (f a && l.all f)) ∧ (∀ {α : Type} {f : α → Bool}, [].all f = true) ∧ (∀ {a b : Int}, a ≥ b ↔ b ≤ a) ∧ (∀ {a b : Nat}, a ≥ b ↔ b ≤ a) ∧ (∀ {a b : Int}, a > b ↔ b < a) ∧ (∀ {a b : Nat}, a > b ↔ b < a) ∧ (∀ {α : Type} [BEq α] [ReflBEq α] {a : α}, (a == a) = true) ∧ (∀ {α : Type} [BEq α] [LawfulBEq α] {a b : α}, (a == b) = true ↔ a = b) ∧ (∀ {α : Type} [BEq α] [LawfulBEq α] {a b : α}, (a != b) = true ↔ a ≠ b) ∧ (∀ {α : Type} {a b : α}, (a ≠ b) = ¬ a = b) ∧ (∀ {α : Type} {p : Prop} [Decidable p] {x y : α}, (if ¬ p then x else y) = if p then y else x) ∧ (∀ {α : Type} {p : Prop} [Decidable p] {x : α}, (if p then x else x) = x) ∧ (∀ {α : Type} {a b : α}, (some a).getD b = a) ∧ (∀ {α : Type} {b : α}, (none : Option α).getD b = b) :=
  ⟨List.length_cons, List.length_nil, List.map_cons, List.map_nil, List.take_succ_cons, List.take_zero, List.drop_succ_cons, List.drop_zero, List.drop_nil, List.take_nil, List.cons_append, (List.nil_append _), (List.append_nil _), List.set_cons_zero, List.set_cons_succ, List.all_cons, List.all_nil, Iff.rfl, Iff.rfl, Iff.rfl, Iff.rfl, (beq_self_eq_true _), beq_iff_eq, bne_iff_ne, (ne_eq _ _), (ite_not _ _ _), (ite_self _), Option.getD_some, Option.getD_none⟩
end Go.Proofs.YthnmienjiangkaaDoor.Pi
namespace Go.Proofs.YthnmienjiangkaaDoor.Pi
variable {α β σ : Type} {c : Nat} {H : Heap}
def St (H : Heap) (c : Nat) (bx : Box) (L : List Box) : Heap := hadd (hset H c bx) L
def killR (c : Nat) : Option (Out α) → Option (Out α)
  | some (.pan v H) => some (.pan v (hset H c .dead))
  | r => r
def runK (c : Nat) (m : M α) (H : Heap) : Option (Out α) := killR c (run m H)
def bindK (c : Nat) (r : Option (Out α)) (f : α → M β) : Option (Out β) :=
  match r with
  | none => none
  | some (.ok v H) => runK c (f v) H
  | some (.pan v H) => some (.pan v H)
inductive Res (σ α : Type) where
  | ok (v : α) (s : σ)
  | err (t : TypeId) (l : List Int)
  | no
def fltP (t : TypeId) (l : List Int) : PV := .iface t (.agg (l.map (PV.int .i64)))
theorem ugv {t : TypeId} {l : List Int} : fltP t l = .iface t (.agg (l.map (PV.int .i64))) := nrfl rfl
theorem uf7 {n : Nat} : ∀ l : List Int, lowL n (l.map (PV.int .i64)) = true
  | [] => u97
  | a :: r => by rw [List.map_cons, u7x, udc, uf7 r]; rfl
theorem ucp {t : TypeId} {l : List Int} {n : Nat} : (fltP t l).low n = true := by
  unfold fltP
  rw [uag, ugd]
  exact uf7 l
def Res.bind {σ τ α β : Type} (r : Res σ α) (g : α → σ → Res τ β) : Res τ β :=
  match r with
  | .ok v s => g v s
  | .err t l => .err t l
  | .no => .no
def elimK {σ α γ : Type} (c : Nat) (H : Heap) (L : List Box) (r : Res σ α) (g : α → σ → Option (Out γ)) : Option (Out γ) :=
  match r with
  | .ok v s => g v s
  | .err t l => some (.pan (fltP t l) (St H c .dead L))
  | .no => none
def outK (c : Nat) (H : Heap) (L : List Box) (bx : σ → Box) (enc : α → PV) (r : Res σ α) : Option (Out PV) := elimK c H L r fun v s => some (.ok (enc v) (St H c (bx s) L))
def outS (c : Nat) (H : Heap) (L : List Box) (bx : σ → Box) (enc : α → PV) (r : α × σ) : Option (Out PV) := some (.ok (enc r.1) (St H c (bx r.2) L))
@[congr] theorem up4 {r r' : Option (Out α)} {f : α → M β} (h : r = r') : bindK c r f = bindK c r' f := by rw [h]
@[congr] theorem uq0 {σ α γ : Type} {L L' : List Box} {r r' : Res σ α} {g g' : α → σ → Option (Out γ)} (h : r = r') (hL : L = L') (hg : ∀ v s, r' = .ok v s → g v s = g' v s) : elimK c H L r g = elimK c H L' r' g' := by
  subst h hL
  cases r with
  | ok v s => exact hg v s rfl
  | err t l => rfl
  | no => rfl
theorem ule {L : List Box} {bx : σ → Box} {enc : α → PV} {r : Res σ α} : outK c H L bx enc r = elimK c H L r fun v s => some (.ok (enc v) (St H c (bx s) L)) := nrfl rfl
theorem u87 {L : List Box} {bx : σ → Box} {enc : α → PV} {v : α} {s : σ} : outK c H L bx enc (.ok v s) = some (.ok (enc v) (St H c (bx s) L)) := nrfl rfl
theorem u99 {L : List Box} {bx : σ → Box} {enc : α → PV} {t : TypeId} {l : List Int} : outK c H L bx enc (Res.err t l : Res σ α) = some (.pan (fltP t l) (St H c .dead L)) := nrfl rfl
theorem ulj {L : List Box} {bx : σ → Box} {enc : α → PV} : outK c H L bx enc (Res.no : Res σ α) = none := nrfl rfl
theorem uhk {γ : Type} {L : List Box} {g : α → σ → Option (Out γ)} : elimK c H L (Res.no : Res σ α) g = none := nrfl rfl
theorem udm {τ : Type} {β : Type} {L : List Box} {bx : σ → Box} {enc : α → PV} {r : Res τ β} {g : β → τ → Res σ α} : outK c H L bx enc (r.bind g) = elimK c H L r fun v s => outK c H L bx enc (g v s) := by cases r <;> rfl
theorem ui2 {L : List Box} {bx : σ → Box} {enc : α → PV} {p : Prop} [Decidable p] {r r' : Res σ α} : outK c H L bx enc (if p then r else r') = if p then outK c H L bx enc r else outK c H L bx enc r' := by split <;> rfl
theorem ui4 {γ : Type} {L : List Box} {v : α} {s : σ} {g : α → σ → Option (Out γ)} : elimK c H L (.ok v s) g = g v s := nrfl rfl
theorem uf4 {γ : Type} {L : List Box} {t : TypeId} {l : List Int} {g : α → σ → Option (Out γ)} : elimK c H L (Res.err t l : Res σ α) g = some (.pan (fltP t l) (St H c .dead L)) := nrfl rfl
theorem uee {γ : Type} {L : List Box} {p : Prop} [Decidable p] {r r' : Res σ α} {g : α → σ → Option (Out γ)} : elimK c H L (if p then r else r') g = if p then elimK c H L r g else elimK c H L r' g := by split <;> rfl
theorem ucb {γ τ β : Type} {L : List Box} {r : Res τ β} {f : β → τ → Res σ α} {g : α → σ → Option (Out γ)} : elimK c H L (r.bind f) g = elimK c H L r fun v s => elimK c H L (f v s) g := by cases r <;> rfl
theorem uhj {v : α} : killR c (some (.ok v H)) = some (.ok v H) := nrfl rfl
theorem uch : killR c (none : Option (Out α)) = none := nrfl rfl
theorem ua5 {v : PV} : killR c (some (.pan v H) : Option (Out α)) = some (.pan v (hset H c .dead)) := nrfl rfl
theorem udp {p : Prop} [Decidable p] {r r' : Option (Out α)} : killR c (if p then r else r') = if p then killR c r else killR c r' := by split <;> rfl
theorem uey {m : M α} {f : α → M β} : runK c (M.bind m f) H = bindK c (runK c m H) f := by
  unfold runK
  rw [run_bind]
  cases run m H with
  | none => rfl
  | some q => cases q <;> rfl
theorem uhw {f : α → M β} {v : α} : bindK c (some (.ok v H)) f = runK c (f v) H := nrfl rfl
theorem ubx {f : α → M β} : bindK c none f = none := nrfl rfl
theorem ued {f : α → M β} {v : PV} : bindK c (some (.pan v H)) f = some (.pan v H) := nrfl rfl
theorem ufh {p : Prop} [Decidable p] {r r' : Option (Out α)} {f : α → M β} : bindK c (if p then r else r') f = if p then bindK c r f else bindK c r' f := by split <;> rfl
theorem ubh {L : List Box} {r : Res σ α} {g : α → σ → Option (Out PV)} {f : PV → M β} : bindK c (elimK c H L r g) f = elimK c H L r fun v s => bindK c (g v s) f := by cases r <;> rfl
noncomputable def nbK (c : Nat) (H : Heap) (r : Option (Out α)) (f : α → M β) : Option (Out β) := killR c (nbR H r f)
@[congr] theorem uq9 {r r' : Option (Out α)} {f : α → M β} (h : r = r') : nbK c H r f = nbK c H r' f := by rw [h]
theorem ukt {m : M α} {f : α → M β} : runK c (nb m f) H = nbK c H (runK c m H) f := by
  unfold nbK runK nbR run nb killR
  dsimp only
  cases m H with
  | none => rfl
  | some q => cases q <;> rfl
theorem nbK_ok {f : α → M β} {v : α} : nbK c H (some (.ok v H)) f = runK c (f v) H := by
  unfold nbK
  rw [nbR_ok]
  rfl
theorem uhu {f : α → M β} : nbK c H none f = none := by
  unfold nbK nbR nb
  rfl
theorem ukl {p : Prop} [Decidable p] {r r' : Option (Out α)} {f : α → M β} : nbK c H (if p then r else r') f = if p then nbK c H r f else nbK c H r' f := by split <;> rfl
theorem ujt {m : M PV} (hc : c < List.length H) : runK c (trunc m) H = truncR H (runK c m H) := by
  unfold runK
  rw [uam]
  cases run m H with
  | none => rfl
  | some q => cases q with
    | ok v K => rfl
    | pan v K =>
      show killR c (bif v.low H.length then some (Out.pan v (hcut K H.length)) else none) = (bif v.low H.length then some (Out.pan v (hcut (hset K c .dead) H.length)) else none)
      cases v.low H.length with
      | false => rfl
      | true =>
        simp only [cond_true, ua5, Option.some.injEq, Out.pan.injEq, true_and]
        unfold hset hcut
        rw [List.take_set]
theorem uc1 {p : Bool} {m : M α} : runK c (guardM p m) H = if p = true then runK c m H else none := by cases p <;> rfl
theorem ufd {v : PV} {m : M PV} : runK c (resT v m) H = if isTup v = true then none else runK c m H := by unfold resT; cases isTup v <;> rfl
theorem udt {p : Bool} {x y : M α} : runK c (condM (.bool p) x y) H = if p = true then runK c x H else runK c y H := by cases p <;> rfl
theorem uhl {p : Bool} {m : M PV} : runK c (gd (.bool p) true m) H = if p = true then runK c m H else some (.ok (.tup []) H) := by cases p <;> rfl
theorem uhx {p : Bool} {m : M PV} : runK c (gd (.bool p) false m) H = if p = true then some (.ok (.tup []) H) else runK c m H := by cases p <;> rfl
theorem uhn {b : Bool} {m : M PV} : runK c (gd (.tup []) b m) H = some (.ok (.tup []) H) := nrfl rfl
theorem ue8 {v : α} : runK c (M.pure v) H = some (.ok v H) := nrfl rfl
theorem uj3 {v : PV} : runK c (M.pan v : M α) H = some (.pan v (hset H c .dead)) := nrfl rfl
theorem udq : runK c (M.fail : M α) H = none := nrfl rfl
theorem ubl {m : M PV} : runK c (noPan m) H = noPanR (run m H) := by
  unfold runK
  rw [ubc]
  cases run m H with
  | none => rfl
  | some q => cases q <;> rfl
noncomputable def chkK (c : Nat) (r r' : Option (Out α)) (x : M β) (H : Heap) : Option (Out β) := killR c (chkR r r' x H)
@[congr] theorem uq4 {r r' s s' : Option (Out α)} {x : M β} (h : r = s) (h' : r' = s') : chkK c r r' x H = chkK c s s' x H := by rw [h, h']
theorem ui3 {m m' : M α} {x : M β} : runK c (chk m m' x) H = chkK c (run m H) (run m' H) x H := nrfl rfl
theorem ukc {a : α} {K : Heap} {x : M β} : chkK c (some (.ok a K)) (some (.ok a K)) x H = runK c x H := by
  unfold chkK
  rw [uh7]
  rfl
theorem ufi {r : Option (Out α)} {x : M β} : chkK c none r x H = none := by
  unfold chkK chkR run chk
  rfl
theorem uis {p : Prop} [Decidable p] {r r' s : Option (Out α)} {x : M β} : chkK c (if p then r else r') s x H = if p then chkK c r s x H else chkK c r' s x H := by split <;> rfl
theorem ufn {r : Option (Out α)} {x : M β} : chkR none r x H = none := by
  unfold chkR run chk
  rfl
theorem uhr {p : Prop} [Decidable p] {r r' s : Option (Out α)} {x : M β} : chkR (if p then r else r') s x H = if p then chkR r s x H else chkR r' s x H := by split <;> rfl
section
variable {n : Nat} {id o : Nat} {x y v i : PV} {cs : List PV} {m : Option Nat} {mv b : Bool} {L : List Box}
theorem ul5 : runK c (al cs) H = killR c (run (al cs) H) := nrfl rfl
theorem ukd : runK c (bx n v) H = killR c (run (bx n v) H) := nrfl rfl
theorem um8 : runK c (ld m mv v) H = killR c (run (ld m mv v) H) := nrfl rfl
theorem umi : runK c (st n mv x v) H = killR c (run (st n mv x v) H) := nrfl rfl
theorem uix : runK c (iaS n x i) H = killR c (run (iaS n x i) H) := nrfl rfl
theorem ui6 {len : Nat} : runK c (ixA len n m x i) H = killR c (run (ixA len n m x i) H) := nrfl rfl
theorem ufc : runK c (pick v x y) H = killR c (run (pick v x y) H) := nrfl rfl
theorem umy {t : TypeId} : runK c (mi t v) H = killR c (run (mi t v) H) := nrfl rfl
theorem uki {t : FuncId} {l l' : List PV} : runK c (mf t l l') H = killR c (run (mf t l l') H) := nrfl rfl
theorem ums {z : List PV} {ps : List (Nat × Nat × PV)} : runK c (bd z ps) H = killR c (run (bd z ps) H) := nrfl rfl
theorem uky {l : List PV} : runK c (bs b m l) H = killR c (run (bs b m l) H) := nrfl rfl
theorem ul4 {k : Nat} : runK c (ap b n k x y) H = killR c (run (ap b n k x y) H) := nrfl rfl
theorem uld {k : Nat} : runK c (mk b n k x y) H = killR c (run (mk b n k x y) H) := nrfl rfl
theorem ujd : runK c (lnS x) H = killR c (run (lnS x) H) := nrfl rfl
theorem uif : runK c (lnL x) H = killR c (run (lnL x) H) := nrfl rfl
theorem uih : runK c (ixS x i) H = killR c (run (ixS x i) H) := nrfl rfl
theorem uhv {lo hi : Option PV} : runK c (slS x lo hi) H = killR c (run (slS x lo hi) H) := nrfl rfl
theorem uiy {lo hi : Option PV} : runK c (slL n x lo hi) H = killR c (run (slL n x lo hi) H) := nrfl rfl
theorem ume {k : Cv} : runK c (cv k b x) H = killR c (run (cv k b x) H) := nrfl rfl
theorem ukx : runK c (ex n x) H = killR c (run (ex n x) H) := nrfl rfl
theorem ulq {op : BinOp} {ek : EqK} : runK c (bi op ek x y) H = killR c (run (bi op ek x y) H) := nrfl rfl
theorem toK {m : M PV} : runK c m H = killR c (run m H) := nrfl rfl
theorem ubf {x : Box} (hc : c < List.length H) : St H c x L = St (hadd H L) c x [] := by
  unfold St hadd hset
  rw [List.append_nil, List.set_append_left _ _ hc]
theorem len_St {x : Box} : List.length (St H c x L) = List.length H + List.length L := by unfold St; rw [u4u, u6e]
theorem get_St {x : Box} (hc : c < List.length H) : hget (St H c x L) c = some x := by unfold St; rw [u9k hc, ug8 hc]
theorem ulv {x : Box} (k : Nat) : hget (St H c x L) (List.length H + k) = nth L k := u9c k
theorem uii {x : Box} : hget (St H c x L) (List.length H) = nth L 0 := u9w
theorem set_St {x y : Box} (hc : c < List.length H) : hset (St H c x L) c y = St H c y L := by unfold St; rw [ud2 hc, set_set]
theorem ula {x y : Box} (k : Nat) : hset (St H c x L) (List.length H + k) y = St H c x (L.set k y) := u9l k
theorem uj6 {x y : Box} : hset (St H c x L) (List.length H) y = St H c x (L.set 0 y) := uao
theorem add_St {x : Box} {K : List Box} : hadd (St H c x L) K = St H c x (L ++ K) := u7j
theorem cut_St {x : Box} : hcut (St H c x L) (List.length H) = St H c x [] := by
  unfold St
  rw [cutA1]
  exact (List.append_nil _).symm
theorem u9t {r : Res σ α} {bx : Box} {g : α → σ → Option (Out PV)} : truncR (St H c bx []) (elimK c H L r g) = elimK c H [] r fun v s => truncR (St H c bx []) (g v s) := by
  cases r with
  | ok v s => rfl
  | err t l =>
    show truncR (St H c bx []) (some (Out.pan (fltP t l) (St H c .dead L))) = some (Out.pan (fltP t l) (St H c .dead []))
    rw [u86, if_pos ucp, len_St, List.length_nil, Nat.add_zero, cut_St]
  | no => rfl
theorem ual {m : M PV} {x : Box} (hc : c < List.length H) : runK c (trunc m) (St H c x L) = truncR (St H c x L) (runK c m (St H c x L)) := ujt (by rw [len_St]; omega)
theorem liftK {m : M PV} {x : Box} {bx : σ → Box} {enc : α → PV} {r : Res σ α} (h : ∀ H, c < List.length H → runK c m (St H c x []) = outK c H [] bx enc r) (hc : c < List.length H) : runK c m (St H c x L) = outK c H L bx enc r := by
  rw [ubf hc, h _ (by rw [u4u]; omega)]
  cases r with
  | ok v s => rw [u87, u87, ubf (L := L) hc]
  | err t l => rw [u99, u99, ubf (L := L) hc]
  | no => rfl
theorem uly {bx : σ → Box} {enc : α → PV} {v : α} {s : σ} : outS c H L bx enc (v, s) = some (.ok (enc v) (St H c (bx s) L)) := nrfl rfl
theorem un5 {bx : σ → Box} {enc : α → PV} {r : α × σ} {f : PV → M β} : bindR (outS c H L bx enc r) f = run (f (enc r.1)) (St H c (bx r.2) L) := nrfl rfl
end
end Go.Proofs.YthnmienjiangkaaDoor.Pi
namespace Go.Proofs.YthnmienjiangkaaDoor.Pi
theorem kDown : type_of% (And.intro (And.intro (And.intro (And.intro (And.intro @u87 @u99) (And.intro @ulj (And.intro @uhk @udm))) (And.intro
    (And.intro @ui2 @ui4) (And.intro @uf4 (And.intro @uee @ucb)))) (And.intro (And.intro (And.intro @uhj @uch)
    (And.intro @ua5 (And.intro @udp @uey))) (And.intro (And.intro @uhw (And.intro @ubx @ued)) (And.intro @ufh
    (And.intro @ubh @u9t))))) (And.intro (And.intro (And.intro (And.intro @ukt @nbK_ok) (And.intro @uhu (And.intro @ukl
    @ual))) (And.intro (And.intro @uc1 (And.intro @ufd @udt)) (And.intro @uhl (And.intro @uhx @uhn))))
    (And.intro (And.intro (And.intro @ue8 @uj3) (And.intro @udq (And.intro @ubl @ui3))) (And.intro (And.intro @ukc
    (And.intro @ufi @uis)) (And.intro @ufn (And.intro @uhr @un5)))))) := (And.intro (And.intro (And.intro (And.intro (And.intro @u87 @u99) (And.intro @ulj (And.intro @uhk @udm))) (And.intro
    (And.intro @ui2 @ui4) (And.intro @uf4 (And.intro @uee @ucb)))) (And.intro (And.intro (And.intro @uhj @uch)
    (And.intro @ua5 (And.intro @udp @uey))) (And.intro (And.intro @uhw (And.intro @ubx @ued)) (And.intro @ufh
    (And.intro @ubh @u9t))))) (And.intro (And.intro (And.intro (And.intro @ukt @nbK_ok) (And.intro @uhu (And.intro @ukl
    @ual))) (And.intro (And.intro @uc1 (And.intro @ufd @udt)) (And.intro @uhl (And.intro @uhx @uhn))))
    (And.intro (And.intro (And.intro @ue8 @uj3) (And.intro @udq (And.intro @ubl @ui3))) (And.intro (And.intro @ukc
    (And.intro @ufi @uis)) (And.intro @ufn (And.intro @uhr @un5))))))
theorem kUp : type_of% (And.intro (And.intro (And.intro (And.intro (And.intro @ule @uly) (And.intro @ugv @ucp)) (And.intro (And.intro @ul5 @ukd)
    (And.intro @um8 @umi))) (And.intro (And.intro (And.intro @uix @ui6) (And.intro @ufc @umy)) (And.intro (And.intro
    @uki @ums) (And.intro @uky (And.intro @ul4 @uld))))) (And.intro (And.intro (And.intro (And.intro @ujd @uif)
    (And.intro @uih @uhv)) (And.intro (And.intro @uiy @ume) (And.intro @ukx @ulq))) (And.intro (And.intro (And.intro @len_St
    @get_St) (And.intro @ulv @uii)) (And.intro (And.intro @set_St @ula) (And.intro @uj6 (And.intro @add_St @cut_St)))))) := (And.intro (And.intro (And.intro (And.intro (And.intro @ule @uly) (And.intro @ugv @ucp)) (And.intro (And.intro @ul5 @ukd)
    (And.intro @um8 @umi))) (And.intro (And.intro (And.intro @uix @ui6) (And.intro @ufc @umy)) (And.intro (And.intro
    @uki @ums) (And.intro @uky (And.intro @ul4 @uld))))) (And.intro (And.intro (And.intro (And.intro @ujd @uif)
    (And.intro @uih @uhv)) (And.intro (And.intro @uiy @ume) (And.intro @ukx @ulq))) (And.intro (And.intro (And.intro @len_St
    @get_St) (And.intro @ulv @uii)) (And.intro (And.intro @set_St @ula) (And.intro @uj6 (And.intro @add_St @cut_St))))))
end Go.Proofs.YthnmienjiangkaaDoor.Pi
namespace Go.Proofs.YthnmienjiangkaaDoor.Pi.Q
open Go Go.Proofs.YthnmienjiangkaaDoor.Pi
noncomputable abbrev P : Program := Tryd.prog
noncomputable abbrev X : ExtT := fun _ => none
noncomputable abbrev C := callW P X
noncomputable abbrev CD := callDW P X
abbrev u2m : FuncId := 3
abbrev u3x : FuncId := 4
abbrev u1y : FuncId := 5
abbrev u1s : FuncId := 6
abbrev u41 : FuncId := 7
abbrev u2l : FuncId := 8
abbrev u3e : FuncId := 9
abbrev u27 : FuncId := 10
abbrev u30 : FuncId := 11
abbrev u23 : FuncId := 12
abbrev u3f : FuncId := 13
abbrev u2h : FuncId := 14
abbrev u2t : FuncId := 15
abbrev u2e : FuncId := 16
abbrev u2f : FuncId := 17
abbrev u11 : FuncId := 18
abbrev u05 : FuncId := 19
abbrev u3g : FuncId := 20
abbrev u1f : FuncId := 21
abbrev u1g : FuncId := 22
abbrev u0o : FuncId := 23
abbrev u18 : FuncId := 24
abbrev u00 : FuncId := 25
abbrev u2s : FuncId := 26
abbrev u0k : FuncId := 27
abbrev u0n : FuncId := 28
abbrev u39 : FuncId := 29
abbrev u0y : FuncId := 30
abbrev u2a : FuncId := 31
abbrev u3a : FuncId := 32
abbrev u24 : FuncId := 33
abbrev u2y : FuncId := 34
abbrev u52 : FuncId := 35
abbrev u4y : FuncId := 36
abbrev u2k : FuncId := 37
abbrev u3b : FuncId := 38
abbrev u1w : FuncId := 39
abbrev u4q : FuncId := 40
abbrev u1o : FuncId := 41
abbrev u0m : FuncId := 42
abbrev u1l : FuncId := 43
abbrev u3r : FuncId := 44
abbrev u19 : FuncId := 45
abbrev u2j : FuncId := 46
abbrev u4f : FuncId := 47
abbrev u4g : FuncId := 48
abbrev u0w : FuncId := 49
abbrev u3q : FuncId := 50
abbrev u26 : FuncId := 51
abbrev u1n : FuncId := 52
abbrev u3h : FuncId := 53
abbrev u0f : FuncId := 54
abbrev u37 : FuncId := 55
abbrev u29 : FuncId := 56
abbrev u1t : FuncId := 57
abbrev u1r : FuncId := 58
abbrev u3y : FuncId := 59
abbrev u3k : FuncId := 60
abbrev u2u : FuncId := 61
abbrev u0h : TypeId := 73
end Go.Proofs.YthnmienjiangkaaDoor.Pi.Q
namespace Go.Proofs.YthnmienjiangkaaDoor.Pi.Q
open Go Go.Proofs.YthnmienjiangkaaDoor.Pi
theorem u5a (a0 a1 : PV) : C u2m [a0, a1] =
 trunc (M.bind (bx 19 a0) fun t2_0 =>
 M.bind (bx 3 a1) fun t3_1 =>
 M.bind (ld (some 19) false t2_0) fun t10_2 =>
 M.bind (C u3x [(strip t10_2)]) fun t11_3 =>
 M.bind (ex 0 t11_3) fun t12_4 =>
 M.bind (ex 1 (tupDrop 0 t11_3)) fun t13_5 =>
 M.bind (ld (some 19) false t2_0) fun t15_6 =>
 M.bind (C u1y [(strip t15_6)]) fun t16_7 =>
 M.bind (ex 0 t16_7) fun t17_8 =>
 M.bind (ex 1 (tupDrop 0 t16_7)) fun t18_9 =>
 M.bind (C u1s [(strip (strip t12_4)), (strip (strip t13_5)), (strip (strip t17_8)), (strip (strip t18_9))]) fun t23_10 =>
 M.bind (un .not t23_10) fun t24_11 =>
 condM t24_11
 (M.pure (.bool false))
 (M.bind (ld (some 3) false t3_1) fun t26_12 =>
 M.bind (C u41 [(strip t26_12)]) fun t27_13 =>
 M.bind (ex 0 t27_13) fun t28_14 =>
 M.bind (ex 1 (tupDrop 0 t27_13)) fun t29_15 =>
 M.bind (ld (some 3) false t3_1) fun t31_16 =>
 M.bind (C u2l [(strip t31_16)]) fun t32_17 =>
 M.bind (ex 0 t32_17) fun t33_18 =>
 M.bind (ex 1 (tupDrop 0 t32_17)) fun t34_19 =>
 M.bind (C u1s [(strip (strip t28_14)), (strip (strip t29_15)), (strip (strip t33_18)), (strip (strip t34_19))]) fun t39_20 =>
 M.bind (un .not t39_20) fun t40_21 =>
 condM t40_21
 (M.pure (.bool false))
 (M.bind (fa 2 t2_0) fun t42_22 =>
 M.bind (fa 2 t42_22) fun t43_23 =>
 M.bind (ld (some 7) false t43_23) fun t44_24 =>
 M.bind (C u3e [(strip t44_24)]) fun t45_25 =>
 M.bind (ex 0 t45_25) fun t46_26 =>
 M.bind (ex 1 (tupDrop 0 t45_25)) fun t47_27 =>
 M.bind (fa 2 t2_0) fun t49_28 =>
 M.bind (fa 2 t49_28) fun t50_29 =>
 M.bind (ld (some 7) false t50_29) fun t51_30 =>
 M.bind (C u27 [(strip t51_30)]) fun t52_31 =>
 M.bind (ex 0 t52_31) fun t53_32 =>
 M.bind (ex 1 (tupDrop 0 t52_31)) fun t54_33 =>
 M.bind (C u1s [(strip (strip t46_26)), (strip (strip t47_27)), (strip (strip t53_32)), (strip (strip t54_33))]) fun t59_34 =>
 M.bind (un .not t59_34) fun t60_35 =>
 condM t60_35
 (M.pure (.bool false))
 (M.bind (fa 2 t2_0) fun t62_36 =>
 M.bind (fa 13 t62_36) fun t63_37 =>
 M.bind (ld (some 4) false t63_37) fun t64_38 =>
 M.bind (C u30 [(strip t64_38)]) fun t65_39 =>
 M.bind (ex 0 t65_39) fun t66_40 =>
 M.bind (ex 1 (tupDrop 0 t65_39)) fun t67_41 =>
 M.bind (fa 2 t2_0) fun t69_42 =>
 M.bind (fa 13 t69_42) fun t70_43 =>
 M.bind (ld (some 4) false t70_43) fun t71_44 =>
 M.bind (C u23 [(strip t71_44)]) fun t72_45 =>
 M.bind (ex 0 t72_45) fun t73_46 =>
 M.bind (ex 1 (tupDrop 0 t72_45)) fun t74_47 =>
 M.bind (C u1s [(strip (strip t66_40)), (strip (strip t67_41)), (strip (strip t73_46)), (strip (strip t74_47))]) fun t79_48 =>
 M.bind (gd (strip t79_48) true (C u3f [])) fun t81_49 =>
 M.bind (pick (strip t79_48) t81_49 (.bool false)) fun t82_50 =>
 resT t82_50 (M.pure t82_50))))) := by
 rw [C, u07 _ _ rfl]; kernel_rfl
theorem u82 (a0 : PV) : C u3x [a0] =
 trunc (M.bind (bx 19 a0) fun t1_0 =>
 M.bind (mf u2t [] [t1_0]) fun t4_1 =>
 M.bind (C u2h [(strip t4_1)]) fun t5_2 =>
 M.bind (ex 0 t5_2) fun t6_3 =>
 M.bind (ex 1 (tupDrop 0 t5_2)) fun t7_4 =>
 resT t6_3 (resT t7_4 (M.pure (.tup [t6_3, t7_4])))) := by
 rw [C, u07 _ _ rfl]; kernel_rfl
noncomputable def u0d (v2 v3 v4 : PV) : M PV := atP P X u1y [1, 1, 1, 1, 1, 1, 1, 1] (mkEnv 91 0 [(2, v2), (3, v3), (4, v4)])
theorem u0b (v2 v3 v4 : PV) : u0d v2 v3 v4 =
 M.bind (C u00 [(strip (strip v4))]) fun t88_0 =>
 M.bind (ex 0 t88_0) fun t89_1 =>
 M.bind (ex 1 (tupDrop 0 t88_0)) fun t90_2 =>
 resT t89_1 (resT t90_2 (M.pure (.tup [t89_1, t90_2]))) :=
 (u17 P X _ _ _).trans (by kernel_rfl)
theorem u0x (a0 : PV) : C u1y [a0] =
 trunc (M.bind (bx 19 a0) fun t1_0 =>
 M.bind (bd [(.slice false true 0 []), (.int .i64 0)] []) fun t6_1 =>
 M.bind (bx 2 t6_1) fun t7_2 =>
 M.bind (fa 0 t1_0) fun t9_3 =>
 M.bind (ld none false t9_3) fun t10_4 =>
 M.bind (C u11 [(strip (strip t7_2)), (strip t10_4)]) fun t11_5 =>
 M.bind (fa 1 t1_0) fun t13_6 =>
 M.bind (ld none false t13_6) fun t14_7 =>
 M.bind (C u11 [(strip (strip t7_2)), (strip t14_7)]) fun t15_8 =>
 M.bind (fa 2 t1_0) fun t16_9 =>
 M.bind (ld (some 17) true t16_9) fun t17_10 =>
 M.bind (al [(.int .i64 0), (.int .i64 0), (.int .i64 0), (.bool false), (.int .i64 0), (.bool false), (.int .u64 0), (.int .u64 0), (.bool false), (.bool false), (.int .u64 0), (.int .u64 0), (.bool false), (.int .i64 0), (.bool false), (.int .i64 0), (.bool false)]) fun t5_11 =>
 M.bind (st 17 true t5_11 t17_10) fun _ =>
 M.bind (fa 0 t5_11) fun t19_13 =>
 M.bind (ld none false t19_13) fun t20_14 =>
 M.bind (bi .geq .none t20_14 (.int .i64 0)) fun t21_15 =>
 M.bind (gd (strip t21_15) true (fa 0 t5_11)) fun t23_16 =>
 M.bind (gd (strip t21_15) true (ld none false t23_16)) fun t24_17 =>
 M.bind (gd (strip t21_15) true (bi .leq .none t24_17 (.int .i64 4))) fun t25_18 =>
 M.bind (pick (strip t21_15) t25_18 (.bool false)) fun t26_19 =>
 M.bind (gd (strip t26_19) true (ld (some 17) false t5_11)) fun t28_20 =>
 M.bind (gd (strip t26_19) true (fa 0 t5_11)) fun t29_21 =>
 M.bind (gd (strip t26_19) true (ld none false t29_21)) fun t30_22 =>
 M.bind (gd (strip t26_19) true (C u3g [(strip t28_20), (strip t30_22)])) fun t31_23 =>
 M.bind (pick (strip t26_19) t31_23 (.bool false)) fun t32_24 =>
 M.bind (C u05 [(strip (strip t7_2)), (strip t32_24), (.int .i64 4)]) fun t33_25 =>
 chk
 (M.bind (noPan (M.pure (strip t7_2))) fun t34_39 =>
 M.bind (noPan (M.pure (strip t7_2))) fun t35_40 =>
 M.bind (noPan (nc P t35_40)) fun t36_41 =>
 M.bind (noPan (fa 0 t36_41)) fun t37_42 =>
 M.bind (noPan (fa 0 t5_11)) fun t39_43 =>
 M.bind (noPan (ld none false t39_43)) fun t40_44 =>
 M.bind (noPan (cv (.int .u8) true t40_44)) fun t41_45 =>
 M.bind (noPan (bs true none [t41_45])) fun t42_46 =>
 M.bind (noPan (ld none true t37_42)) fun t38_47 =>
 M.bind (noPan (ap true 1 1 t38_47 t42_46)) fun t43_48 =>
 M.bind (noPan (nc P t34_39)) fun t44_49 =>
 M.bind (noPan (fa 0 t44_49)) fun t45_50 =>
 M.bind (noPan (st 1 true t45_50 t43_48)) fun _ =>
 M.pure [a0, t1_0, (PV.slice false true 0 []), (PV.int .i64 0), t7_2, t5_11, t6_1, (strip t7_2), (strip t7_2), t9_3, t10_4, t11_5, (strip t7_2), t13_6, t14_7, t15_8, t16_9, (strip t17_10), (strip t7_2), t19_13, t20_14, t21_15, (strip t21_15), t23_16, t24_17, t25_18, t26_19, (strip t26_19), t28_20, t29_21, t30_22, t31_23, t32_24, t33_25, t34_39, t35_40, t36_41, t37_42, (strip t38_47), t39_43, t40_44, t41_45, t42_46, (strip t43_48), t44_49, t45_50, PV.undef, PV.undef, PV.undef, PV.undef, PV.undef, PV.undef, PV.undef, PV.undef, PV.undef, PV.undef, PV.undef, PV.undef, PV.undef, PV.undef, PV.undef, PV.undef, PV.undef, PV.undef, PV.undef, PV.undef, PV.undef, PV.undef, PV.undef, PV.undef, PV.undef, PV.undef, PV.undef, PV.undef, PV.undef, PV.undef, PV.undef, PV.undef, PV.undef, PV.undef, PV.undef, PV.undef, PV.undef, PV.undef, PV.undef, PV.undef, PV.undef, PV.undef, PV.undef, PV.undef, PV.undef])
 (M.bind (noPan (M.pure (strip t7_2))) fun t34_26 =>
 M.bind (noPan (M.pure (strip t7_2))) fun t35_27 =>
 M.bind (noPan (nc P t35_27)) fun t36_28 =>
 M.bind (noPan (fa 0 t36_28)) fun t37_29 =>
 M.bind (noPan (fa 0 t5_11)) fun t39_30 =>
 M.bind (noPan (ld none true t37_29)) fun t38_31 =>
 M.bind (noPan (ld none false t39_30)) fun t40_32 =>
 M.bind (noPan (cv (.int .u8) true t40_32)) fun t41_33 =>
 M.bind (noPan (bs true none [t41_33])) fun t42_34 =>
 M.bind (noPan (ap true 1 1 t38_31 t42_34)) fun t43_35 =>
 M.bind (noPan (nc P t34_26)) fun t44_36 =>
 M.bind (noPan (fa 0 t44_36)) fun t45_37 =>
 M.bind (noPan (st 1 true t45_37 t43_35)) fun _ =>
 M.pure [a0, t1_0, (PV.slice false true 0 []), (PV.int .i64 0), t7_2, t5_11, t6_1, (strip t7_2), (strip t7_2), t9_3, t10_4, t11_5, (strip t7_2), t13_6, t14_7, t15_8, t16_9, (strip t17_10), (strip t7_2), t19_13, t20_14, t21_15, (strip t21_15), t23_16, t24_17, t25_18, t26_19, (strip t26_19), t28_20, t29_21, t30_22, t31_23, t32_24, t33_25, t34_26, t35_27, t36_28, t37_29, (strip t38_31), t39_30, t40_32, t41_33, t42_34, (strip t43_35), t44_36, t45_37, PV.undef, PV.undef, PV.undef, PV.undef, PV.undef, PV.undef, PV.undef, PV.undef, PV.undef, PV.undef, PV.undef, PV.undef, PV.undef, PV.undef, PV.undef, PV.undef, PV.undef, PV.undef, PV.undef, PV.undef, PV.undef, PV.undef, PV.undef, PV.undef, PV.undef, PV.undef, PV.undef, PV.undef, PV.undef, PV.undef, PV.undef, PV.undef, PV.undef, PV.undef, PV.undef, PV.undef, PV.undef, PV.undef, PV.undef, PV.undef, PV.undef, PV.undef, PV.undef, PV.undef, PV.undef]) <|
 M.bind (noPan (M.pure (strip t7_2))) fun t34_52 =>
 M.bind (noPan (M.pure (strip t7_2))) fun t35_53 =>
 M.bind (noPan (nc P t35_53)) fun t36_54 =>
 M.bind (noPan (fa 0 t36_54)) fun t37_55 =>
 M.bind (noPan (fa 0 t5_11)) fun t39_56 =>
 M.bind (noPan (ld none true t37_55)) fun t38_57 =>
 M.bind (noPan (ld none false t39_56)) fun t40_58 =>
 M.bind (noPan (cv (.int .u8) true t40_58)) fun t41_59 =>
 M.bind (noPan (bs true none [t41_59])) fun t42_60 =>
 M.bind (noPan (ap true 1 1 t38_57 t42_60)) fun t43_61 =>
 M.bind (noPan (nc P t34_52)) fun t44_62 =>
 M.bind (noPan (fa 0 t44_62)) fun t45_63 =>
 M.bind (noPan (st 1 true t45_63 t43_61)) fun _ =>
 M.bind (fa 0 t5_11) fun t46_65 =>
 M.bind (ld none false t46_65) fun t47_66 =>
 M.bind (bi .eql .none t47_66 (.int .i64 0)) fun t49_67 =>
 condM t49_67
 (M.bind (fa 1 t5_11) fun t51_68 =>
 M.bind (ld none false t51_68) fun t52_69 =>
 M.bind (C u1f [(strip (strip t7_2)), (strip t52_69)]) fun t53_70 =>
 u0d (.slice false true 0 []) (.int .i64 0) t7_2)
 (M.bind (bi .eql .none t47_66 (.int .i64 1)) fun t55_71 =>
 condM t55_71
 (M.bind (fa 2 t5_11) fun t57_72 =>
 M.bind (ld (some 7) false t57_72) fun t58_73 =>
 M.bind (C u1g [(strip (strip t7_2)), (strip t58_73)]) fun t59_74 =>
 u0d (.slice false true 0 []) (.int .i64 0) t7_2)
 (M.bind (bi .eql .none t47_66 (.int .i64 2)) fun t61_75 =>
 condM t61_75
 (M.bind (fa 9 t5_11) fun t63_76 =>
 M.bind (ld (some 4) false t63_76) fun t64_77 =>
 M.bind (C u0o [(strip (strip t7_2)), (strip t64_77)]) fun t65_78 =>
 u0d (.slice false true 0 []) (.int .i64 0) t7_2)
 (M.bind (bi .eql .none t47_66 (.int .i64 3)) fun t67_79 =>
 condM t67_79
 (M.bind (fa 13 t5_11) fun t69_80 =>
 M.bind (ld (some 4) false t69_80) fun t70_81 =>
 M.bind (C u18 [(strip (strip t7_2)), (strip t70_81)]) fun t71_82 =>
 u0d (.slice false true 0 []) (.int .i64 0) t7_2)
 (M.bind (bi .eql .none t47_66 (.int .i64 4)) fun t73_83 =>
 condM t73_83
 (M.bind (nc P (strip t7_2)) fun t76_84 =>
 M.bind (fa 0 t76_84) fun t77_85 =>
 M.bind (ld none true t77_85) fun t78_86 =>
 M.bind (bs true none [(.int .u8 0)]) fun t79_87 =>
 M.bind (ap true 1 1 t78_86 t79_87) fun t80_88 =>
 M.bind (nc P (strip t7_2)) fun t81_89 =>
 M.bind (fa 0 t81_89) fun t82_90 =>
 M.bind (st 1 true t82_90 t80_88) fun _ =>
 M.bind (fa 1 t5_11) fun t84_92 =>
 M.bind (ld none false t84_92) fun t85_93 =>
 M.bind (C u1f [(strip (strip t7_2)), (strip t85_93)]) fun t86_94 =>
 u0d (.slice false true 0 []) (.int .i64 0) t7_2)
 (u0d (.slice false true 0 []) (.int .i64 0) t7_2)))))) := by
 rw [C, u07 _ _ rfl]; kernel_rfl
theorem u6x (a0 a1 a2 a3 : PV) : C u1s [a0, a1, a2, a3] =
 trunc (M.bind (cv .bytesToStr true (strip a0)) fun t10_0 =>
 M.bind (cv .bytesToStr true (strip a2)) fun t12_1 =>
 M.bind (bi .eql .none t10_0 t12_1) fun t13_2 =>
 M.bind (gd (strip t13_2) true (M.pure (strip a1))) fun t15_3 =>
 M.bind (gd (strip t13_2) true (M.pure (strip a3))) fun t16_4 =>
 M.bind (gd (strip t13_2) true (bi .eql .none t15_3 t16_4)) fun t17_5 =>
 M.bind (pick (strip t13_2) t17_5 (.bool false)) fun t18_6 =>
 M.bind (gd (strip t18_6) true (M.pure (strip a1))) fun t20_7 =>
 M.bind (gd (strip t18_6) true (bi .eql .none t20_7 (.int .i64 0))) fun t21_8 =>
 M.bind (gd (strip t18_6) true (M.pure (strip t21_8))) fun t22_9 =>
 M.bind (gd t22_9 false (M.pure (strip a0))) fun t23_10 =>
 M.bind (gd t22_9 false (lnL t23_10)) fun t24_11 =>
 M.bind (gd t22_9 false (bi .eql .none t24_11 (.int .i64 0))) fun t25_12 =>
 M.bind (gd (strip t18_6) true (pick t22_9 (.bool true) t25_12)) fun t26_13 =>
 M.bind (pick (strip t18_6) t26_13 (.bool false)) fun t27_14 =>
 resT t27_14 (M.pure t27_14)) := by
 rw [C, u07 _ _ rfl]; kernel_rfl
theorem u7o (a0 : PV) : C u41 [a0] =
 trunc (M.bind (bx 3 a0) fun t1_0 =>
 M.bind (mf u2s [] [t1_0]) fun t4_1 =>
 M.bind (C u2h [(strip t4_1)]) fun t5_2 =>
 M.bind (ex 0 t5_2) fun t6_3 =>
 M.bind (ex 1 (tupDrop 0 t5_2)) fun t7_4 =>
 resT t6_3 (resT t7_4 (M.pure (.tup [t6_3, t7_4])))) := by
 rw [C, u07 _ _ rfl]; kernel_rfl
theorem u59 (a0 : PV) : C u2l [a0] =
 trunc (M.bind (bx 3 a0) fun t1_0 =>
 M.bind (bd [(.slice false true 0 []), (.int .i64 0)] []) fun t5_1 =>
 M.bind (bx 2 t5_1) fun t6_2 =>
 M.bind (fa 0 t1_0) fun t8_3 =>
 M.bind (ld none false t8_3) fun t9_4 =>
 M.bind (C u11 [(strip (strip t6_2)), (strip t9_4)]) fun t10_5 =>
 M.bind (fa 1 t1_0) fun t12_6 =>
 M.bind (ld none false t12_6) fun t13_7 =>
 M.bind (bi .geq .none t13_7 (.int .i64 0)) fun t14_8 =>
 M.bind (gd (strip t14_8) true (fa 1 t1_0)) fun t16_9 =>
 M.bind (gd (strip t14_8) true (ld none false t16_9)) fun t17_10 =>
 M.bind (gd (strip t14_8) true (bi .leq .none t17_10 (.int .i64 4))) fun t18_11 =>
 M.bind (pick (strip t14_8) t18_11 (.bool false)) fun t19_12 =>
 M.bind (C u05 [(strip (strip t6_2)), (strip t19_12), (.int .i64 4)]) fun t20_13 =>
 chk
 (M.bind (noPan (M.pure (strip t6_2))) fun t21_27 =>
 M.bind (noPan (M.pure (strip t6_2))) fun t22_28 =>
 M.bind (noPan (nc P t22_28)) fun t23_29 =>
 M.bind (noPan (fa 0 t23_29)) fun t24_30 =>
 M.bind (noPan (fa 1 t1_0)) fun t26_31 =>
 M.bind (noPan (ld none false t26_31)) fun t27_32 =>
 M.bind (noPan (cv (.int .u8) true t27_32)) fun t28_33 =>
 M.bind (noPan (bs true none [t28_33])) fun t29_34 =>
 M.bind (noPan (ld none true t24_30)) fun t25_35 =>
 M.bind (noPan (ap true 1 1 t25_35 t29_34)) fun t30_36 =>
 M.bind (noPan (nc P t21_27)) fun t31_37 =>
 M.bind (noPan (fa 0 t31_37)) fun t32_38 =>
 M.bind (noPan (st 1 true t32_38 t30_36)) fun _ =>
 M.pure [a0, t1_0, (.slice false true 0 []), (.int .i64 0), t6_2, t5_1, (strip t6_2), (strip t6_2), t8_3, t9_4, t10_5, (strip t6_2), t12_6, t13_7, t14_8, (strip t14_8), t16_9, t17_10, t18_11, t19_12, t20_13, t21_27, t22_28, t23_29, t24_30, (strip t25_35), t26_31, t27_32, t28_33, t29_34, (strip t30_36), t31_37, t32_38, .undef, .undef, .undef, .undef, .undef, .undef, .undef, .undef, .undef])
 (M.bind (noPan (M.pure (strip t6_2))) fun t21_14 =>
 M.bind (noPan (M.pure (strip t6_2))) fun t22_15 =>
 M.bind (noPan (nc P t22_15)) fun t23_16 =>
 M.bind (noPan (fa 0 t23_16)) fun t24_17 =>
 M.bind (noPan (fa 1 t1_0)) fun t26_18 =>
 M.bind (noPan (ld none true t24_17)) fun t25_19 =>
 M.bind (noPan (ld none false t26_18)) fun t27_20 =>
 M.bind (noPan (cv (.int .u8) true t27_20)) fun t28_21 =>
 M.bind (noPan (bs true none [t28_21])) fun t29_22 =>
 M.bind (noPan (ap true 1 1 t25_19 t29_22)) fun t30_23 =>
 M.bind (noPan (nc P t21_14)) fun t31_24 =>
 M.bind (noPan (fa 0 t31_24)) fun t32_25 =>
 M.bind (noPan (st 1 true t32_25 t30_23)) fun _ =>
 M.pure [a0, t1_0, (.slice false true 0 []), (.int .i64 0), t6_2, t5_1, (strip t6_2), (strip t6_2), t8_3, t9_4, t10_5, (strip t6_2), t12_6, t13_7, t14_8, (strip t14_8), t16_9, t17_10, t18_11, t19_12, t20_13, t21_14, t22_15, t23_16, t24_17, (strip t25_19), t26_18, t27_20, t28_21, t29_22, (strip t30_23), t31_24, t32_25, .undef, .undef, .undef, .undef, .undef, .undef, .undef, .undef, .undef]) <|
 M.bind (noPan (M.pure (strip t6_2))) fun t21_40 =>
 M.bind (noPan (M.pure (strip t6_2))) fun t22_41 =>
 M.bind (noPan (nc P t22_41)) fun t23_42 =>
 M.bind (noPan (fa 0 t23_42)) fun t24_43 =>
 M.bind (noPan (fa 1 t1_0)) fun t26_44 =>
 M.bind (noPan (ld none true t24_43)) fun t25_45 =>
 M.bind (noPan (ld none false t26_44)) fun t27_46 =>
 M.bind (noPan (cv (.int .u8) true t27_46)) fun t28_47 =>
 M.bind (noPan (bs true none [t28_47])) fun t29_48 =>
 M.bind (noPan (ap true 1 1 t25_45 t29_48)) fun t30_49 =>
 M.bind (noPan (nc P t21_40)) fun t31_50 =>
 M.bind (noPan (fa 0 t31_50)) fun t32_51 =>
 M.bind (noPan (st 1 true t32_51 t30_49)) fun _ =>
 M.bind (fa 2 t1_0) fun t34_53 =>
 M.bind (ld none false t34_53) fun t35_54 =>
 M.bind (cv (.int .u64) true t35_54) fun t36_55 =>
 M.bind (C u0y [(strip (strip t6_2)), (strip t36_55)]) fun t37_56 =>
 M.bind (C u00 [(strip (strip t6_2))]) fun t39_57 =>
 M.bind (ex 0 t39_57) fun t40_58 =>
 M.bind (ex 1 (tupDrop 0 t39_57)) fun t41_59 =>
 resT t40_58 (resT t41_59 (M.pure (.tup [t40_58, t41_59])))) := by
 rw [C, u07 _ _ rfl]; kernel_rfl
theorem u63 (a0 : PV) : C u3e [a0] =
 trunc (M.bind (bx 7 a0) fun t1_0 =>
 M.bind (mf u2a [] [t1_0]) fun t4_1 =>
 M.bind (C u2h [(strip t4_1)]) fun t5_2 =>
 M.bind (ex 0 t5_2) fun t6_3 =>
 M.bind (ex 1 (tupDrop 0 t5_2)) fun t7_4 =>
 resT t6_3 (resT t7_4 (M.pure (.tup [t6_3, t7_4])))) := by
 rw [C, u07 _ _ rfl]; kernel_rfl
theorem u4k (a0 : PV) : C u27 [a0] =
 trunc (M.bind (bx 7 a0) fun t1_0 =>
 M.bind (bd [(.slice false true 0 []), (.int .i64 0)] []) fun t5_1 =>
 M.bind (bx 2 t5_1) fun t6_2 =>
 M.bind (ld (some 7) false t1_0) fun t8_3 =>
 M.bind (C u1g [(strip (strip t6_2)), (strip t8_3)]) fun t9_4 =>
 M.bind (C u00 [(strip (strip t6_2))]) fun t11_5 =>
 M.bind (ex 0 t11_5) fun t12_6 =>
 M.bind (ex 1 (tupDrop 0 t11_5)) fun t13_7 =>
 resT t12_6 (resT t13_7 (M.pure (.tup [t12_6, t13_7])))) := by
 rw [C, u07 _ _ rfl]; kernel_rfl
theorem u5x (a0 : PV) : C u30 [a0] =
 trunc (M.bind (bx 4 a0) fun t1_0 =>
 M.bind (mf u24 [] [t1_0]) fun t4_1 =>
 M.bind (C u2h [(strip t4_1)]) fun t5_2 =>
 M.bind (ex 0 t5_2) fun t6_3 =>
 M.bind (ex 1 (tupDrop 0 t5_2)) fun t7_4 =>
 resT t6_3 (resT t7_4 (M.pure (.tup [t6_3, t7_4])))) := by
 rw [C, u07 _ _ rfl]; kernel_rfl
theorem u49 (a0 : PV) : C u23 [a0] =
 trunc (M.bind (bx 4 a0) fun t1_0 =>
 M.bind (bd [(.slice false true 0 []), (.int .i64 0)] []) fun t5_1 =>
 M.bind (bx 2 t5_1) fun t6_2 =>
 M.bind (ld (some 4) false t1_0) fun t8_3 =>
 M.bind (C u18 [(strip (strip t6_2)), (strip t8_3)]) fun t9_4 =>
 M.bind (C u00 [(strip (strip t6_2))]) fun t11_5 =>
 M.bind (ex 0 t11_5) fun t12_6 =>
 M.bind (ex 1 (tupDrop 0 t11_5)) fun t13_7 =>
 resT t12_6 (resT t13_7 (M.pure (.tup [t12_6, t13_7])))) := by
 rw [C, u07 _ _ rfl]; kernel_rfl
theorem u6d : C u3f [] =
 trunc (M.bind (bd [(.int .i64 0), (.bool false), (.int .i64 0)] [(0, 1, (.int .i64 1))]) fun t4_0 =>
 M.bind (C u52 [(strip t4_0)]) fun t5_1 =>
 M.bind (ex 0 t5_1) fun t6_2 =>
 M.bind (ex 1 (tupDrop 0 t5_1)) fun t7_3 =>
 M.bind (bi .eql .none (strip t7_3) (.int .i64 0)) fun t9_4 =>
 M.bind (gd (strip t9_4) true (M.pure (strip t6_2))) fun t11_5 =>
 M.bind (gd (strip t9_4) true (cv .bytesToStr true t11_5)) fun t12_6 =>
 M.bind (gd (strip t9_4) true (bi .eql .none t12_6 (.str ⟨#[127]⟩))) fun t13_7 =>
 M.bind (pick (strip t9_4) t13_7 (.bool false)) fun t14_8 =>
 resT t14_8 (M.pure t14_8)) := by
 rw [C, u07 _ _ rfl]; kernel_rfl
theorem u71 (a0 : PV) : C u2h [a0] =
 trunc (M.bind (al [(.slice false true 0 [])]) fun t2_0 =>
 M.bind (al [(.int .i64 0)]) fun t3_1 =>
 M.bind (mf u4y [] [t2_0, t3_1]) fun t5_2 =>
 guardM (isPtr t2_0 && isPtr t3_1) <| deferM CD t5_2 []
 (M.bind (bd [(.slice false true 0 [])] []) fun t6_3 =>
 M.bind (bx 1 t6_3) fun t7_4 =>
 M.bind (callV P C (strip a0) [(strip (strip t7_4))]) fun t10_5 =>
 M.bind (nc P (strip t7_4)) fun t12_6 =>
 M.bind (fa 0 t12_6) fun t13_7 =>
 M.bind (ld none true t13_7) fun t14_8 =>
 M.bind (st 1 true t2_0 t14_8) fun _ =>
 M.bind (st 1 false t3_1 (.int .i64 0)) fun _ =>
 M.bind (ld none true t2_0) fun t0_11 => guardM (!isTup t0_11) (M.bind (ld none true t3_1) fun t0_12 => guardM (!isTup t0_12) (M.pure (.tup [t0_11, t0_12]))))
 (M.bind (ld none true t2_0) fun t0_13 => guardM (!isTup t0_13) (M.bind (ld none true t3_1) fun t0_14 => guardM (!isTup t0_14) (M.pure (.tup [t0_13, t0_14]))))) := by
 rw [C, u07 _ _ rfl]; kernel_rfl
theorem u6s (a0 a1 : PV) : C u2t [a0, a1] =
 trunc (M.bind (fa 0 a1) fun t4_0 =>
 M.bind (ld none false t4_0) fun t5_1 =>
 M.bind (C u2e [(strip (strip a0)), (strip t5_1)]) fun t6_2 =>
 M.bind (fa 1 a1) fun t8_3 =>
 M.bind (ld none false t8_3) fun t9_4 =>
 M.bind (C u2e [(strip (strip a0)), (strip t9_4)]) fun t10_5 =>
 M.bind (fa 2 a1) fun t12_6 =>
 M.bind (ld (some 17) false t12_6) fun t13_7 =>
 M.bind (C u2f [(strip (strip a0)), (strip t13_7)]) fun t14_8 =>
 M.pure (.tup [])) := by
 rw [C, u07 _ _ rfl]; kernel_rfl
noncomputable def u3n (v0 v4 : PV) : M PV := atP P X u2e [1, 1] (mkEnv 25 0 [(0, v0), (4, v4)])
theorem u5y (v0 v4 : PV) : u3n v0 v4 =
 M.bind (nc P (strip v0)) fun t18_0 =>
 M.bind (fa 0 t18_0) fun t19_1 =>
 M.bind (ld none true t19_1) fun t20_2 =>
 M.bind (ap true 1 1 t20_2 (strip v4)) fun t22_3 =>
 M.bind (nc P (strip v0)) fun t23_4 =>
 M.bind (fa 0 t23_4) fun t24_5 =>
 M.bind (st 1 true t24_5 t22_3) fun _ =>
 M.pure (.tup []) :=
 (u17 P X _ _ _).trans (by kernel_rfl)
theorem u8a (a0 a1 : PV) : C u2e [a0, a1] =
 trunc (M.bind (C u2k [(strip (strip a1))]) fun t8_0 =>
 M.bind (ex 0 t8_0) fun t9_1 =>
 M.bind (ex 1 (tupDrop 0 t8_0)) fun t10_2 =>
 M.bind (bi .neq .none (strip t10_2) (.int .i64 0)) fun t12_3 =>
 condM t12_3
 (M.bind (bd [(.int .i64 0), (.int .i64 0)] [(0, 1, (.int .i64 0)), (1, 1, (strip t10_2))]) fun t14_4 =>
 M.bind (mi u0h t14_4) fun t15_5 =>
 M.bind (pn t15_5) fun _ =>
 u3n a0 t9_1)
 (u3n a0 t9_1)) := by
 rw [C, u07 _ _ rfl]; kernel_rfl
noncomputable def u2i (v0 v3 v4 v9 v12 : PV) : M PV := atP P X u2f [1, 1, 0, 1, 0, 1] (mkEnv 73 0 [(0, v0), (3, v3), (4, v4), (9, v9), (12, v12)])
noncomputable def u13 (v0 v3 v4 : PV) : M PV := atP P X u2f [1, 1, 1] (mkEnv 73 0 [(0, v0), (3, v3), (4, v4)])
theorem u0t (v0 v3 v4 v9 v12 : PV) : u2i v0 v3 v4 v9 v12 =
 condM v12
 (M.bind (fa 1 v3) fun t15_0 =>
 M.bind (ld none true t15_0) fun t16_1 =>
 M.bind (fa 1 v4) fun t17_2 =>
 M.bind (st 1 true t17_2 t16_1) fun _ =>
 u13 v0 v3 v4)
 (M.bind (bi .eql .none v9 (.int .i64 1)) fun t19_4 =>
 condM t19_4
 (M.bind (fa 2 v3) fun t20_5 =>
 M.bind (ld (some 7) true t20_5) fun t21_6 =>
 M.bind (fa 2 v4) fun t22_7 =>
 M.bind (st 7 true t22_7 t21_6) fun _ =>
 u13 v0 v3 v4)
 (M.bind (bi .eql .none v9 (.int .i64 2)) fun t24_9 =>
 condM t24_9
 (M.bind (fa 9 v3) fun t25_10 =>
 M.bind (ld (some 4) true t25_10) fun t26_11 =>
 M.bind (fa 9 v4) fun t27_12 =>
 M.bind (st 4 true t27_12 t26_11) fun _ =>
 u13 v0 v3 v4)
 (M.bind (bi .eql .none v9 (.int .i64 3)) fun t29_14 =>
 condM t29_14
 (M.bind (fa 13 v3) fun t30_15 =>
 M.bind (ld (some 4) true t30_15) fun t31_16 =>
 M.bind (fa 13 v4) fun t32_17 =>
 M.bind (st 4 true t32_17 t31_16) fun _ =>
 u13 v0 v3 v4)
 (M.bind (C u0k [(strip (strip v0)), (.bool false)]) fun t11_19 =>
 u13 v0 v3 v4)))) :=
 (u17 P X _ _ _).trans (by kernel_rfl)
theorem u15 (v0 v3 v4 : PV) : u13 v0 v3 v4 =
 M.bind (ld (some 17) false v3) fun t34_0 =>
 M.bind (ld (some 17) false v4) fun t35_1 =>
 M.bind (bi .eql (.struct [.int, .int, .int, .bool, .int, .bool, .int, .int, .bool, .bool, .int, .int, .bool, .int, .bool, .int, .bool]) t34_0 t35_1) fun t36_2 =>
 M.bind (C u0k [(strip (strip v0)), (strip t36_2)]) fun t37_3 =>
 M.bind (fa 0 v3) fun t39_4 =>
 M.bind (ld none false t39_4) fun t40_5 =>
 M.bind (cv (.int .u8) true t40_5) fun t41_6 =>
 M.bind (C u0n [(strip (strip v0)), (strip t41_6)]) fun t42_7 =>
 M.bind (fa 0 v3) fun t43_8 =>
 M.bind (ld none false t43_8) fun t44_9 =>
 M.bind (bi .eql .none t44_9 (.int .i64 0)) fun t50_10 =>
 condM t50_10
 (M.bind (fa 1 v3) fun t52_11 =>
 M.bind (ld none false t52_11) fun t53_12 =>
 M.bind (C u3b [(strip (strip v0)), (strip t53_12)]) fun t54_13 =>
 M.pure (.tup []))
 (M.bind (bi .eql .none t44_9 (.int .i64 1)) fun t56_14 =>
 condM t56_14
 (M.bind (fa 2 v3) fun t58_15 =>
 M.bind (ld (some 7) false t58_15) fun t59_16 =>
 M.bind (C u3a [(strip (strip v0)), (strip t59_16)]) fun t60_17 =>
 M.pure (.tup []))
 (M.bind (bi .eql .none t44_9 (.int .i64 2)) fun t62_18 =>
 condM t62_18
 (M.bind (fa 9 v3) fun t64_19 =>
 M.bind (ld (some 4) false t64_19) fun t65_20 =>
 M.bind (C u1w [(strip (strip v0)), (strip t65_20)]) fun t66_21 =>
 M.pure (.tup []))
 (M.bind (bi .eql .none t44_9 (.int .i64 3)) fun t68_22 =>
 condM t68_22
 (M.bind (fa 13 v3) fun t70_23 =>
 M.bind (ld (some 4) false t70_23) fun t71_24 =>
 M.bind (C u2y [(strip (strip v0)), (strip t71_24)]) fun t72_25 =>
 M.pure (.tup []))
 (M.bind (fa 1 v3) fun t46_26 =>
 M.bind (ld none false t46_26) fun t47_27 =>
 M.bind (C u4q [(strip (strip v0)), (strip t47_27)]) fun t48_28 =>
 M.pure (.tup []))))) :=
 (u17 P X _ _ _).trans (by kernel_rfl)
theorem u7b (a0 a1 : PV) : C u2f [a0, a1] =
 trunc (M.bind (bx 17 a1) fun t3_0 =>
 M.bind (fa 0 t3_0) fun t5_1 =>
 M.bind (ld none false t5_1) fun t6_2 =>
 M.bind (bd [(.int .i64 0), (.int .i64 0), (.int .i64 0), (.bool false), (.int .i64 0), (.bool false), (.int .u64 0), (.int .u64 0), (.bool false), (.bool false), (.int .u64 0), (.int .u64 0), (.bool false), (.int .i64 0), (.bool false), (.int .i64 0), (.bool false)] [(0, 1, t6_2)]) fun t7_3 =>
 M.bind (al [(.int .i64 0), (.int .i64 0), (.int .i64 0), (.bool false), (.int .i64 0), (.bool false), (.int .u64 0), (.int .u64 0), (.bool false), (.bool false), (.int .u64 0), (.int .u64 0), (.bool false), (.int .i64 0), (.bool false), (.int .i64 0), (.bool false)]) fun t4_4 =>
 M.bind (st 17 true t4_4 t7_3) fun _ =>
 M.bind (fa 0 t3_0) fun t8_6 =>
 M.bind (ld none false t8_6) fun t9_7 =>
 M.bind (bi .eql .none t9_7 (.int .i64 0)) fun t13_8 =>
 condM t13_8
 (u2i a0 t3_0 t4_4 t9_7 t13_8)
 (M.bind (bi .eql .none t9_7 (.int .i64 4)) fun t14_9 =>
 u2i a0 t3_0 t4_4 t9_7 t14_9)) := by
 rw [C, u07 _ _ rfl]; kernel_rfl
theorem u4h (a0 a1 : PV) : C u11 [a0, a1] =
 trunc (M.bind (C u1o [(strip (strip a1))]) fun t8_0 =>
 M.bind (ex 0 t8_0) fun t9_1 =>
 M.bind (ex 1 (tupDrop 0 t8_0)) fun t10_2 =>
 M.bind (bi .eql .none (strip t10_2) (.int .i64 0)) fun t13_3 =>
 M.bind (C u05 [(strip (strip a0)), (strip t13_3), (strip (strip t10_2))]) fun t15_4 =>
 M.bind (nc P (strip a0)) fun t18_5 =>
 M.bind (fa 0 t18_5) fun t19_6 =>
 M.bind (ld none true t19_6) fun t20_7 =>
 M.bind (ap true 1 1 t20_7 (strip t9_1)) fun t22_8 =>
 M.bind (nc P (strip a0)) fun t23_9 =>
 M.bind (fa 0 t23_9) fun t24_10 =>
 M.bind (st 1 true t24_10 t22_8) fun _ =>
 M.pure (.tup [])) := by
 rw [C, u07 _ _ rfl]; kernel_rfl
theorem u4o (a0 a1 a2 : PV) : C u05 [a0, a1, a2] =
 trunc (M.bind (un .not (strip a1)) fun t7_0 =>
 M.bind (gd (strip t7_0) true (M.pure (strip a0))) fun t9_1 =>
 M.bind (gd (strip t7_0) true (nc P t9_1)) fun t10_2 =>
 M.bind (gd (strip t7_0) true (fa 1 t10_2)) fun t11_3 =>
 M.bind (gd (strip t7_0) true (ld none false t11_3)) fun t12_4 =>
 M.bind (gd (strip t7_0) true (bi .eql .none t12_4 (.int .i64 0))) fun t13_5 =>
 M.bind (pick (strip t7_0) t13_5 (.bool false)) fun t14_6 =>
 condM t14_6
 (M.bind (nc P (strip a0)) fun t17_7 =>
 M.bind (fa 1 t17_7) fun t18_8 =>
 M.bind (st 1 true t18_8 a2) fun _ =>
 M.pure (.tup []))
 (M.pure (.tup []))) := by
 rw [C, u07 _ _ rfl]; kernel_rfl
theorem u68 (a0 a1 : PV) : C u3g [a0, a1] =
 trunc (M.bind (bx 17 a0) fun t2_0 =>
 M.bind (bi .eql .none (strip a1) (.int .i64 0)) fun t7_1 =>
 M.bind (gd (strip t7_1) false (M.pure (strip a1))) fun t9_2 =>
 M.bind (gd (strip t7_1) false (bi .eql .none t9_2 (.int .i64 4))) fun t10_3 =>
 M.bind (pick (strip t7_1) (.bool true) t10_3) fun t11_4 =>
 M.bind (gd (strip t11_4) false (fa 1 t2_0)) fun t13_5 =>
 M.bind (gd (strip t11_4) false (ld none false t13_5)) fun t14_6 =>
 M.bind (gd (strip t11_4) false (bi .eql .none t14_6 (.int .i64 0))) fun t15_7 =>
 M.bind (pick (strip t11_4) (.bool true) t15_7) fun t16_8 =>
 M.bind (gd (strip (strip t16_8)) true (M.pure (strip a1))) fun t19_9 =>
 M.bind (gd (strip (strip t16_8)) true (bi .eql .none t19_9 (.int .i64 1))) fun t20_10 =>
 M.bind (gd (strip (strip t16_8)) true (M.pure (strip t20_10))) fun t21_11 =>
 M.bind (gd t21_11 false (fa 2 t2_0)) fun t22_12 =>
 M.bind (gd t21_11 false (ld (some 7) false t22_12)) fun t23_13 =>
 M.bind (gd t21_11 false (bd [(.int .i64 0), (.bool false), (.int .i64 0), (.bool false), (.int .u64 0), (.int .u64 0), (.bool false)] [])) fun t24_14 =>
 M.bind (gd t21_11 false (bi .eql (.struct [.int, .bool, .int, .bool, .int, .int, .bool]) t23_13 t24_14)) fun t25_15 =>
 M.bind (gd (strip (strip t16_8)) true (pick t21_11 (.bool true) t25_15)) fun t26_16 =>
 M.bind (pick (strip (strip t16_8)) t26_16 (.bool false)) fun t27_17 =>
 M.bind (gd (strip (strip t27_17)) true (M.pure (strip a1))) fun t30_18 =>
 M.bind (gd (strip (strip t27_17)) true (bi .eql .none t30_18 (.int .i64 2))) fun t31_19 =>
 M.bind (gd (strip (strip t27_17)) true (M.pure (strip t31_19))) fun t32_20 =>
 M.bind (gd t32_20 false (fa 9 t2_0)) fun t33_21 =>
 M.bind (gd t32_20 false (ld (some 4) false t33_21)) fun t34_22 =>
 M.bind (gd t32_20 false (bd [(.bool false), (.int .u64 0), (.int .u64 0), (.bool false)] [])) fun t35_23 =>
 M.bind (gd t32_20 false (bi .eql (.struct [.bool, .int, .int, .bool]) t34_22 t35_23)) fun t36_24 =>
 M.bind (gd (strip (strip t27_17)) true (pick t32_20 (.bool true) t36_24)) fun t37_25 =>
 M.bind (pick (strip (strip t27_17)) t37_25 (.bool false)) fun t38_26 =>
 M.bind (gd (strip (strip t38_26)) true (M.pure (strip a1))) fun t41_27 =>
 M.bind (gd (strip (strip t38_26)) true (bi .eql .none t41_27 (.int .i64 3))) fun t42_28 =>
 M.bind (gd (strip (strip t38_26)) true (M.pure (strip t42_28))) fun t43_29 =>
 M.bind (gd t43_29 false (fa 13 t2_0)) fun t44_30 =>
 M.bind (gd t43_29 false (ld (some 4) false t44_30)) fun t45_31 =>
 M.bind (gd t43_29 false (bd [(.int .i64 0), (.bool false), (.int .i64 0), (.bool false)] [])) fun t46_32 =>
 M.bind (gd t43_29 false (bi .eql (.struct [.int, .bool, .int, .bool]) t45_31 t46_32)) fun t47_33 =>
 M.bind (gd (strip (strip t38_26)) true (pick t43_29 (.bool true) t47_33)) fun t48_34 =>
 M.bind (pick (strip (strip t38_26)) t48_34 (.bool false)) fun t49_35 =>
 resT t49_35 (M.pure t49_35)) := by
 rw [C, u07 _ _ rfl]; kernel_rfl
theorem u4d (a0 a1 : PV) : C u1f [a0, a1] =
 trunc (M.bind (bi .geq .none (strip a1) (.int .i64 0)) fun t6_0 =>
 M.bind (gd (strip t6_0) true (M.pure (strip a1))) fun t8_1 =>
 M.bind (gd (strip t6_0) true (bi .lss .none t8_1 (.int .i64 2147483648))) fun t9_2 =>
 M.bind (pick (strip t6_0) t9_2 (.bool false)) fun t10_3 =>
 M.bind (C u05 [(strip (strip a0)), (strip t10_3), (.int .i64 4)]) fun t11_4 =>
 M.bind (bi .geq .none (strip a1) (.int .i64 0)) fun t13_5 =>
 condM t13_5
 (M.bind (cv (.int .u64) true (strip a1)) fun t16_6 =>
 M.bind (C u0y [(strip (strip a0)), (strip t16_6)]) fun t17_7 =>
 M.pure (.tup []))
 (M.pure (.tup []))) := by
 rw [C, u07 _ _ rfl]; kernel_rfl
theorem u4a (a0 a1 : PV) : C u1g [a0, a1] =
 trunc (M.bind (bx 7 a1) fun t3_0 =>
 M.bind (fa 0 t3_0) fun t5_1 =>
 M.bind (fa 0 t5_1) fun t6_2 =>
 M.bind (ld none false t6_2) fun t7_3 =>
 M.bind (bi .eql .none t7_3 (.int .i64 5)) fun t8_4 =>
 M.bind (C u05 [(strip (strip a0)), (strip t8_4), (.int .i64 4)]) fun t9_5 =>
 M.bind (fa 0 t3_0) fun t11_6 =>
 M.bind (ld (some 3) false t11_6) fun t12_7 =>
 M.bind (C u0m [(strip (strip a0)), (strip t12_7), (.bool false)]) fun t13_8 =>
 M.bind (fa 3 t3_0) fun t15_9 =>
 M.bind (ld (some 4) false t15_9) fun t16_10 =>
 M.bind (C u0o [(strip (strip a0)), (strip t16_10)]) fun t17_11 =>
 M.pure (.tup [])) := by
 rw [C, u07 _ _ rfl]; kernel_rfl
noncomputable def u1k (v0 v3 v4 : PV) : M PV := atP P X u0o [1, 1, 1] (mkEnv 58 0 [(0, v0), (3, v3), (4, v4)])
noncomputable def u1h (v0 v3 v4 : PV) : M PV := atP P X u0o [1, 1, 1, 1] (mkEnv 58 0 [(0, v0), (3, v3), (4, v4)])
theorem u25 (v0 v3 v4 : PV) : u1k v0 v3 v4 =
 M.bind (fa 3 v3) fun t7_0 =>
 M.bind (ld none false t7_0) fun t8_1 =>
 condM t8_1
 (M.bind (bi .add .none (strip v4) (.int .u8 1)) fun t10_2 =>
 u1h v0 v3 t10_2)
 (u1h v0 v3 v4) :=
 (u17 P X _ _ _).trans (by kernel_rfl)
theorem u22 (v0 v3 v4 : PV) : u1h v0 v3 v4 =
 M.bind (nc P (strip v0)) fun t13_0 =>
 M.bind (fa 0 t13_0) fun t14_1 =>
 M.bind (ld none true t14_1) fun t15_2 =>
 M.bind (bs true none [(strip v4)]) fun t17_3 =>
 M.bind (ap true 1 1 t15_2 t17_3) fun t18_4 =>
 M.bind (nc P (strip v0)) fun t19_5 =>
 M.bind (fa 0 t19_5) fun t20_6 =>
 M.bind (st 1 true t20_6 t18_4) fun _ =>
 M.bind (fa 0 v3) fun t22_8 =>
 M.bind (ld none false t22_8) fun t23_9 =>
 M.bind (gd (strip t23_9) false (fa 1 v3)) fun t25_10 =>
 M.bind (gd (strip t23_9) false (ld none false t25_10)) fun t26_11 =>
 M.bind (gd (strip t23_9) false (bi .lss .none t26_11 (.int .u64 4294967296))) fun t27_12 =>
 M.bind (pick (strip t23_9) (.bool true) t27_12) fun t28_13 =>
 M.bind (C u05 [(strip (strip v0)), (strip t28_13), (.int .i64 4)]) fun t29_14 =>
 M.bind (fa 1 v3) fun t31_15 =>
 M.bind (ld none false t31_15) fun t32_16 =>
 M.bind (C u0y [(strip (strip v0)), (strip t32_16)]) fun t33_17 =>
 M.bind (fa 0 v3) fun t35_18 =>
 M.bind (ld none false t35_18) fun t36_19 =>
 M.bind (gd (strip t36_19) false (fa 2 v3)) fun t38_20 =>
 M.bind (gd (strip t36_19) false (ld none false t38_20)) fun t39_21 =>
 M.bind (gd (strip t36_19) false (bi .lss .none t39_21 (.int .u64 4294967296))) fun t40_22 =>
 M.bind (pick (strip t36_19) (.bool true) t40_22) fun t41_23 =>
 M.bind (gd (strip t41_23) true (fa 3 v3)) fun t43_24 =>
 M.bind (gd (strip t41_23) true (ld none false t43_24)) fun t44_25 =>
 M.bind (gd (strip t41_23) true (M.pure (strip t44_25))) fun t45_26 =>
 M.bind (gd t45_26 false (fa 2 v3)) fun t46_27 =>
 M.bind (gd t45_26 false (ld none false t46_27)) fun t47_28 =>
 M.bind (gd t45_26 false (bi .eql .none t47_28 (.int .u64 0))) fun t48_29 =>
 M.bind (gd (strip t41_23) true (pick t45_26 (.bool true) t48_29)) fun t49_30 =>
 M.bind (pick (strip t41_23) t49_30 (.bool false)) fun t50_31 =>
 M.bind (C u05 [(strip (strip v0)), (strip t50_31), (.int .i64 4)]) fun t51_32 =>
 M.bind (fa 3 v3) fun t52_33 =>
 M.bind (ld none false t52_33) fun t53_34 =>
 condM t53_34
 (M.bind (fa 2 v3) fun t55_35 =>
 M.bind (ld none false t55_35) fun t56_36 =>
 M.bind (C u0y [(strip (strip v0)), (strip t56_36)]) fun t57_37 =>
 M.pure (.tup []))
 (M.pure (.tup [])) :=
 (u17 P X _ _ _).trans (by kernel_rfl)
theorem u44 (a0 a1 : PV) : C u0o [a0, a1] =
 trunc (M.bind (bx 4 a1) fun t3_0 =>
 M.bind (fa 0 t3_0) fun t5_1 =>
 M.bind (ld none false t5_1) fun t6_2 =>
 condM t6_2
 (u1k a0 t3_0 (.int .u8 4))
 (u1k a0 t3_0 (.int .u8 0))) := by
 rw [C, u07 _ _ rfl]; kernel_rfl
theorem u46 (a0 a1 : PV) : C u18 [a0, a1] =
 trunc (M.bind (bx 4 a1) fun t3_0 =>
 M.bind (fa 0 t3_0) fun t5_1 =>
 M.bind (ld (some 3) false t5_1) fun t6_2 =>
 M.bind (C u0m [(strip (strip a0)), (strip t6_2), (.bool false)]) fun t7_3 =>
 M.bind (fa 3 t3_0) fun t9_4 =>
 M.bind (ld none false t9_4) fun t10_5 =>
 M.bind (C u1l [(strip (strip a0)), (strip t10_5)]) fun t11_6 =>
 M.pure (.tup [])) := by
 rw [C, u07 _ _ rfl]; kernel_rfl
theorem u4i (a0 : PV) : C u00 [a0] =
 trunc (M.bind (nc P (strip a0)) fun t5_0 =>
 M.bind (fa 1 t5_0) fun t6_1 =>
 M.bind (ld none false t6_1) fun t7_2 =>
 M.bind (bi .neq .none t7_2 (.int .i64 0)) fun t8_3 =>
 condM t8_3
 (nb (nc P (strip a0)) fun t10_4 =>
 nb (fa 1 t10_4) fun t11_5 =>
 nb (ld none true t11_5) fun t12_6 =>
 resT t12_6 (M.pure (.tup [(.slice false true 0 []), t12_6])))
 (M.bind (nc P (strip a0)) fun t14_7 =>
 M.bind (fa 0 t14_7) fun t15_8 =>
 M.bind (ld none true t15_8) fun t16_9 =>
 resT t16_9 (M.pure (.tup [t16_9, (.int .i64 0)])))) := by
 rw [C, u07 _ _ rfl]; kernel_rfl
theorem u6w (a0 a1 : PV) : C u2s [a0, a1] =
 trunc (M.bind (fa 0 a1) fun t4_0 =>
 M.bind (ld none false t4_0) fun t5_1 =>
 M.bind (C u2e [(strip (strip a0)), (strip t5_1)]) fun t6_2 =>
 M.bind (fa 1 a1) fun t8_3 =>
 M.bind (ld none false t8_3) fun t9_4 =>
 M.bind (bi .geq .none t9_4 (.int .i64 0)) fun t10_5 =>
 M.bind (gd (strip t10_5) true (fa 1 a1)) fun t12_6 =>
 M.bind (gd (strip t10_5) true (ld none false t12_6)) fun t13_7 =>
 M.bind (gd (strip t10_5) true (bi .leq .none t13_7 (.int .i64 4))) fun t14_8 =>
 M.bind (pick (strip t10_5) t14_8 (.bool false)) fun t15_9 =>
 M.bind (C u0k [(strip (strip a0)), (strip t15_9)]) fun t16_10 =>
 M.bind (fa 1 a1) fun t18_11 =>
 M.bind (ld none false t18_11) fun t19_12 =>
 M.bind (cv (.int .u8) true t19_12) fun t20_13 =>
 M.bind (C u0n [(strip (strip a0)), (strip t20_13)]) fun t21_14 =>
 M.bind (fa 2 a1) fun t23_15 =>
 M.bind (ld none false t23_15) fun t24_16 =>
 M.bind (cv (.int .u64) true t24_16) fun t25_17 =>
 M.bind (C u39 [(strip (strip a0)), (strip t25_17)]) fun t26_18 =>
 M.pure (.tup [])) := by
 rw [C, u07 _ _ rfl]; kernel_rfl
theorem u3z (a0 a1 : PV) : C u0k [a0, a1] =
 trunc (M.bind (un .not (strip a1)) fun t5_0 =>
 condM t5_0
 (M.bind (bd [(.int .i64 0), (.int .i64 0)] [(0, 1, (.int .i64 0)), (1, 1, (.int .i64 4))]) fun t6_1 =>
 M.bind (mi u0h t6_1) fun t7_2 =>
 M.bind (pn t7_2) fun _ =>
 M.pure (.tup []))
 (M.pure (.tup []))) := by
 rw [C, u07 _ _ rfl]; kernel_rfl
theorem u5h (a0 a1 : PV) : C u0n [a0, a1] =
 trunc (M.bind (nc P (strip a0)) fun t6_0 =>
 M.bind (fa 0 t6_0) fun t7_1 =>
 M.bind (ld none true t7_1) fun t8_2 =>
 M.bind (bs true none [(strip a1)]) fun t10_3 =>
 M.bind (ap true 1 1 t8_2 t10_3) fun t11_4 =>
 M.bind (nc P (strip a0)) fun t12_5 =>
 M.bind (fa 0 t12_5) fun t13_6 =>
 M.bind (st 1 true t13_6 t11_4) fun _ =>
 M.pure (.tup [])) := by
 rw [C, u07 _ _ rfl]; kernel_rfl
theorem ubg (a0 a1 : PV) : C u39 [a0, a1] =
 trunc (chk
 (M.bind (noPan (M.pure (strip a0))) fun t4_11 =>
 M.bind (noPan (M.pure (strip a0))) fun t5_12 =>
 M.bind (noPan (nc P t5_12)) fun t6_13 =>
 M.bind (noPan (fa 0 t6_13)) fun t7_14 =>
 M.bind (noPan (M.pure (strip a1))) fun t9_15 =>
 M.bind (noPan (C u3r [(strip t9_15)])) fun t10_16 =>
 M.bind (noPan (ld none true t7_14)) fun t8_17 =>
 M.bind (noPan (ap true 1 1 t8_17 t10_16)) fun t11_18 =>
 M.bind (noPan (nc P t4_11)) fun t12_19 =>
 M.bind (noPan (fa 0 t12_19)) fun t13_20 =>
 M.bind (noPan (st 1 true t13_20 t11_18)) fun _ =>
 M.pure [a0, a1, .undef, .undef, t4_11, t5_12, t6_13, t7_14, (strip t8_17), t9_15, t10_16, (strip t11_18), t12_19, t13_20])
 (M.bind (noPan (M.pure (strip a0))) fun t4_0 =>
 M.bind (noPan (M.pure (strip a0))) fun t5_1 =>
 M.bind (noPan (nc P t5_1)) fun t6_2 =>
 M.bind (noPan (fa 0 t6_2)) fun t7_3 =>
 M.bind (noPan (M.pure (strip a1))) fun t9_4 =>
 M.bind (noPan (ld none true t7_3)) fun t8_5 =>
 M.bind (noPan (C u3r [(strip t9_4)])) fun t10_6 =>
 M.bind (noPan (ap true 1 1 t8_5 t10_6)) fun t11_7 =>
 M.bind (noPan (nc P t4_0)) fun t12_8 =>
 M.bind (noPan (fa 0 t12_8)) fun t13_9 =>
 M.bind (noPan (st 1 true t13_9 t11_7)) fun _ =>
 M.pure [a0, a1, .undef, .undef, t4_0, t5_1, t6_2, t7_3, (strip t8_5), t9_4, t10_6, (strip t11_7), t12_8, t13_9]) <|
 M.bind (noPan (M.pure (strip a0))) fun t4_22 =>
 M.bind (noPan (M.pure (strip a0))) fun t5_23 =>
 M.bind (noPan (nc P t5_23)) fun t6_24 =>
 M.bind (noPan (fa 0 t6_24)) fun t7_25 =>
 M.bind (noPan (M.pure (strip a1))) fun t9_26 =>
 M.bind (noPan (ld none true t7_25)) fun t8_27 =>
 M.bind (noPan (C u3r [(strip t9_26)])) fun t10_28 =>
 M.bind (noPan (ap true 1 1 t8_27 t10_28)) fun t11_29 =>
 M.bind (noPan (nc P t4_22)) fun t12_30 =>
 M.bind (noPan (fa 0 t12_30)) fun t13_31 =>
 M.bind (noPan (st 1 true t13_31 t11_29)) fun _ =>
 M.pure (.tup [])) := by
 rw [C, u07 _ _ rfl]; kernel_rfl
theorem u56 (a0 a1 : PV) : C u0y [a0, a1] =
 trunc (chk
 (M.bind (noPan (M.pure (strip a0))) fun t4_11 =>
 M.bind (noPan (M.pure (strip a0))) fun t5_12 =>
 M.bind (noPan (nc P t5_12)) fun t6_13 =>
 M.bind (noPan (fa 0 t6_13)) fun t7_14 =>
 M.bind (noPan (M.pure (strip a1))) fun t9_15 =>
 M.bind (noPan (C u19 [(strip t9_15)])) fun t10_16 =>
 M.bind (noPan (ld none true t7_14)) fun t8_17 =>
 M.bind (noPan (ap true 1 1 t8_17 t10_16)) fun t11_18 =>
 M.bind (noPan (nc P t4_11)) fun t12_19 =>
 M.bind (noPan (fa 0 t12_19)) fun t13_20 =>
 M.bind (noPan (st 1 true t13_20 t11_18)) fun _ =>
 M.pure [a0, a1, .undef, .undef, t4_11, t5_12, t6_13, t7_14, (strip t8_17), t9_15, t10_16, (strip t11_18), t12_19, t13_20])
 (M.bind (noPan (M.pure (strip a0))) fun t4_0 =>
 M.bind (noPan (M.pure (strip a0))) fun t5_1 =>
 M.bind (noPan (nc P t5_1)) fun t6_2 =>
 M.bind (noPan (fa 0 t6_2)) fun t7_3 =>
 M.bind (noPan (M.pure (strip a1))) fun t9_4 =>
 M.bind (noPan (ld none true t7_3)) fun t8_5 =>
 M.bind (noPan (C u19 [(strip t9_4)])) fun t10_6 =>
 M.bind (noPan (ap true 1 1 t8_5 t10_6)) fun t11_7 =>
 M.bind (noPan (nc P t4_0)) fun t12_8 =>
 M.bind (noPan (fa 0 t12_8)) fun t13_9 =>
 M.bind (noPan (st 1 true t13_9 t11_7)) fun _ =>
 M.pure [a0, a1, .undef, .undef, t4_0, t5_1, t6_2, t7_3, (strip t8_5), t9_4, t10_6, (strip t11_7), t12_8, t13_9]) <|
 M.bind (noPan (M.pure (strip a0))) fun t4_22 =>
 M.bind (noPan (M.pure (strip a0))) fun t5_23 =>
 M.bind (noPan (nc P t5_23)) fun t6_24 =>
 M.bind (noPan (fa 0 t6_24)) fun t7_25 =>
 M.bind (noPan (M.pure (strip a1))) fun t9_26 =>
 M.bind (noPan (ld none true t7_25)) fun t8_27 =>
 M.bind (noPan (C u19 [(strip t9_26)])) fun t10_28 =>
 M.bind (noPan (ap true 1 1 t8_27 t10_28)) fun t11_29 =>
 M.bind (noPan (nc P t4_22)) fun t12_30 =>
 M.bind (noPan (fa 0 t12_30)) fun t13_31 =>
 M.bind (noPan (st 1 true t13_31 t11_29)) fun _ =>
 M.pure (.tup [])) := by
 rw [C, u07 _ _ rfl]; kernel_rfl
theorem u5p (a0 a1 : PV) : C u2a [a0, a1] =
 trunc (M.bind (ld (some 7) false a1) fun t4_0 =>
 M.bind (C u3a [(strip (strip a0)), (strip t4_0)]) fun t5_1 =>
 M.pure (.tup [])) := by
 rw [C, u07 _ _ rfl]; kernel_rfl
theorem u7u (a0 a1 : PV) : C u3a [a0, a1] =
 trunc (M.bind (bx 7 a1) fun t3_0 =>
 M.bind (fa 0 t3_0) fun t5_1 =>
 M.bind (fa 0 t5_1) fun t6_2 =>
 M.bind (ld none false t6_2) fun t7_3 =>
 M.bind (bi .eql .none t7_3 (.int .i64 5)) fun t8_4 =>
 M.bind (C u0k [(strip (strip a0)), (strip t8_4)]) fun t9_5 =>
 M.bind (fa 0 t3_0) fun t11_6 =>
 M.bind (ld (some 3) false t11_6) fun t12_7 =>
 M.bind (C u2j [(strip (strip a0)), (strip t12_7)]) fun t13_8 =>
 M.bind (fa 3 t3_0) fun t15_9 =>
 M.bind (ld (some 4) false t15_9) fun t16_10 =>
 M.bind (C u1w [(strip (strip a0)), (strip t16_10)]) fun t17_11 =>
 M.pure (.tup [])) := by
 rw [C, u07 _ _ rfl]; kernel_rfl
theorem u5d (a0 a1 : PV) : C u24 [a0, a1] =
 trunc (M.bind (ld (some 4) false a1) fun t4_0 =>
 M.bind (C u2y [(strip (strip a0)), (strip t4_0)]) fun t5_1 =>
 M.pure (.tup [])) := by
 rw [C, u07 _ _ rfl]; kernel_rfl
theorem u7c (a0 a1 : PV) : C u2y [a0, a1] =
 trunc (M.bind (bx 4 a1) fun t3_0 =>
 M.bind (fa 0 t3_0) fun t5_1 =>
 M.bind (ld (some 3) false t5_1) fun t6_2 =>
 M.bind (C u2j [(strip (strip a0)), (strip t6_2)]) fun t7_3 =>
 M.bind (fa 3 t3_0) fun t9_4 =>
 M.bind (ld none false t9_4) fun t10_5 =>
 M.bind (C u4f [(strip (strip a0)), (strip t10_5)]) fun t11_6 =>
 M.pure (.tup [])) := by
 rw [C, u07 _ _ rfl]; kernel_rfl
theorem u7m (a0 : PV) : C u52 [a0] =
 trunc (M.bind (bx 3 a0) fun t1_0 =>
 M.bind (mf u4g [] [t1_0]) fun t4_1 =>
 M.bind (C u2h [(strip t4_1)]) fun t5_2 =>
 M.bind (ex 0 t5_2) fun t6_3 =>
 M.bind (ex 1 (tupDrop 0 t5_2)) fun t7_4 =>
 resT t6_3 (resT t7_4 (M.pure (.tup [t6_3, t7_4])))) := by
 rw [C, u07 _ _ rfl]; kernel_rfl
theorem u5i (a0 a1 : PV) : CD none u4y [a0, a1] =
 noPan (trunc (M.bind (M.pure .niliface) fun t3_0 =>
 M.bind (bi .neq .iface (strip t3_0) .niliface) fun t5_1 =>
 condM t5_1
 (nb (M.pure (strip t3_0)) fun t6_2 =>
 nb (ta u0h (.agg [(.int .i64 0), (.int .i64 0)]) false t6_2) fun t7_3 =>
 nb (fd 1 none t7_3) fun t8_4 =>
 guardM (!clash (tst a0) (.no) && (!clash (tst a0) (.no) && (!clash (tst a0) (.no) && true))) <| M.bind (noPan (st 1 false a0 (.slice false true 0 []))) fun _ =>
 M.bind (noPan (st 1 true a1 t8_4)) fun _ =>
 M.pure (.tup []))
 (M.pure (.tup [])))) := by
 rw [CD, uek]; kernel_rfl
theorem u8g (r : PV) (a0 a1 : PV) : CD (some r) u4y [a0, a1] =
 noPan (trunc (M.bind (M.pure r) fun t3_0 =>
 M.bind (bi .neq .iface (strip t3_0) .niliface) fun t5_1 =>
 condM t5_1
 (nb (M.pure (strip t3_0)) fun t6_2 =>
 nb (ta u0h (.agg [(.int .i64 0), (.int .i64 0)]) false t6_2) fun t7_3 =>
 nb (fd 1 none t7_3) fun t8_4 =>
 guardM (!clash (tst a0) (.no) && (!clash (tst a0) (.no) && (!clash (tst a0) (.no) && true))) <| M.bind (noPan (st 1 false a0 (.slice false true 0 []))) fun _ =>
 M.bind (noPan (st 1 true a1 t8_4)) fun _ =>
 M.pure (.tup []))
 (M.pure (.tup [])))) := by
 rw [CD, uek]; kernel_rfl
theorem u95 (a0 : PV) : C u2k [a0] =
 trunc (M.bind (lnS (strip a0)) fun t5_0 =>
 M.bind (bi .gtr .none t5_0 (.int .i64 65536)) fun t6_1 =>
 condM t6_1
 (M.pure (.tup [(.slice false true 0 []), (.int .i64 2)]))
 (M.bind (C u0w [(strip (strip a0))]) fun t8_2 =>
 M.bind (un .not t8_2) fun t9_3 =>
 condM t9_3
 (M.pure (.tup [(.slice false true 0 []), (.int .i64 21)]))
 (M.bind (lnS (strip a0)) fun t11_4 =>
 M.bind (cv (.int .u64) true t11_4) fun t12_5 =>
 M.bind (C u3r [(strip t12_5)]) fun t13_6 =>
 M.bind (ap true 1 1 t13_6 (strip a0)) fun t15_7 =>
 resT t15_7 (M.pure (.tup [t15_7, (.int .i64 0)]))))) := by
 rw [C, u07 _ _ rfl]; kernel_rfl
theorem u7v (a0 a1 : PV) : C u3b [a0, a1] =
 trunc (M.bind (C u3q [(strip (strip a1))]) fun t6_0 =>
 M.bind (C u0k [(strip (strip a0)), (strip t6_0)]) fun t7_1 =>
 M.bind (cv (.int .u64) true (strip a1)) fun t10_2 =>
 M.bind (C u39 [(strip (strip a0)), (strip t10_2)]) fun t11_3 =>
 M.pure (.tup [])) := by
 rw [C, u07 _ _ rfl]; kernel_rfl
noncomputable def u2x (v0 v3 v4 : PV) : M PV := atP P X u1w [1, 1, 1] (mkEnv 51 0 [(0, v0), (3, v3), (4, v4)])
noncomputable def u2r (v0 v3 v4 : PV) : M PV := atP P X u1w [1, 1, 1, 1] (mkEnv 51 0 [(0, v0), (3, v3), (4, v4)])
theorem u57 (v0 v3 v4 : PV) : u2x v0 v3 v4 =
 M.bind (fa 0 v3) fun t7_0 =>
 M.bind (ld none false t7_0) fun t8_1 =>
 condM t8_1
 (M.bind (bi .add .none (strip v4) (.int .u8 4)) fun t10_2 =>
 u2r v0 v3 t10_2)
 (u2r v0 v3 v4) :=
 (u17 P X _ _ _).trans (by kernel_rfl)
theorem u4z (v0 v3 v4 : PV) : u2r v0 v3 v4 =
 M.bind (C u0n [(strip (strip v0)), (strip (strip v4))]) fun t13_0 =>
 M.bind (fa 0 v3) fun t15_1 =>
 M.bind (ld none false t15_1) fun t16_2 =>
 M.bind (gd (strip t16_2) false (fa 1 v3)) fun t18_3 =>
 M.bind (gd (strip t16_2) false (ld none false t18_3)) fun t19_4 =>
 M.bind (gd (strip t16_2) false (bi .lss .none t19_4 (.int .u64 4294967296))) fun t20_5 =>
 M.bind (pick (strip t16_2) (.bool true) t20_5) fun t21_6 =>
 M.bind (C u0k [(strip (strip v0)), (strip t21_6)]) fun t22_7 =>
 M.bind (fa 1 v3) fun t24_8 =>
 M.bind (ld none false t24_8) fun t25_9 =>
 M.bind (C u39 [(strip (strip v0)), (strip t25_9)]) fun t26_10 =>
 M.bind (fa 3 v3) fun t28_11 =>
 M.bind (ld none false t28_11) fun t29_12 =>
 M.bind (gd (strip t29_12) false (fa 2 v3)) fun t31_13 =>
 M.bind (gd (strip t29_12) false (ld none false t31_13)) fun t32_14 =>
 M.bind (gd (strip t29_12) false (bi .eql .none t32_14 (.int .u64 0))) fun t33_15 =>
 M.bind (pick (strip t29_12) (.bool true) t33_15) fun t34_16 =>
 M.bind (gd (strip t34_16) true (fa 0 v3)) fun t36_17 =>
 M.bind (gd (strip t34_16) true (ld none false t36_17)) fun t37_18 =>
 M.bind (gd (strip t34_16) true (M.pure (strip t37_18))) fun t38_19 =>
 M.bind (gd t38_19 false (fa 2 v3)) fun t39_20 =>
 M.bind (gd t38_19 false (ld none false t39_20)) fun t40_21 =>
 M.bind (gd t38_19 false (bi .lss .none t40_21 (.int .u64 4294967296))) fun t41_22 =>
 M.bind (gd (strip t34_16) true (pick t38_19 (.bool true) t41_22)) fun t42_23 =>
 M.bind (pick (strip t34_16) t42_23 (.bool false)) fun t43_24 =>
 M.bind (C u0k [(strip (strip v0)), (strip t43_24)]) fun t44_25 =>
 M.bind (fa 3 v3) fun t45_26 =>
 M.bind (ld none false t45_26) fun t46_27 =>
 condM t46_27
 (M.bind (fa 2 v3) fun t48_28 =>
 M.bind (ld none false t48_28) fun t49_29 =>
 M.bind (C u39 [(strip (strip v0)), (strip t49_29)]) fun t50_30 =>
 M.pure (.tup []))
 (M.pure (.tup [])) :=
 (u17 P X _ _ _).trans (by kernel_rfl)
theorem u7d (a0 a1 : PV) : C u1w [a0, a1] =
 trunc (M.bind (bx 4 a1) fun t3_0 =>
 M.bind (fa 3 t3_0) fun t5_1 =>
 M.bind (ld none false t5_1) fun t6_2 =>
 condM t6_2
 (u2x a0 t3_0 (.int .u8 1))
 (u2x a0 t3_0 (.int .u8 0))) := by
 rw [C, u07 _ _ rfl]; kernel_rfl
theorem u96 (a0 a1 : PV) : C u4q [a0, a1] =
 trunc (M.bind (C u0n [(strip (strip a0)), (.int .u8 0)]) fun t5_0 =>
 M.bind (C u3b [(strip (strip a0)), (strip (strip a1))]) fun t8_1 =>
 M.pure (.tup [])) := by
 rw [C, u07 _ _ rfl]; kernel_rfl
theorem u5s (a0 : PV) : C u1o [a0] =
 trunc (M.bind (lnS (strip a0)) fun t7_0 =>
 M.bind (bi .gtr .none t7_0 (.int .i64 65536)) fun t8_1 =>
 condM t8_1
 (M.pure (.tup [(.slice false true 0 []), (.int .i64 2)]))
 (M.bind (cv (.strToBytes 5) true (strip a0)) fun t11_2 =>
 M.bind (C u26 [(strip t11_2)]) fun t12_3 =>
 M.bind (ex 0 t12_3) fun t13_4 =>
 M.bind (ex 1 (tupDrop 0 t12_3)) fun t14_5 =>
 M.bind (un .not (strip t14_5)) fun t16_6 =>
 condM t16_6
 (M.pure (.tup [(.slice false true 0 []), (.int .i64 21)]))
 (M.bind (lnS (strip a0)) fun t18_7 =>
 M.bind (cv (.int .u64) true t18_7) fun t19_8 =>
 M.bind (C u19 [(strip t19_8)]) fun t20_9 =>
 M.bind (ap true 1 1 t20_9 (strip a0)) fun t22_10 =>
 resT t22_10 (M.pure (.tup [t22_10, (.int .i64 0)]))))) := by
 rw [C, u07 _ _ rfl]; kernel_rfl
end Go.Proofs.YthnmienjiangkaaDoor.Pi.Q
namespace Go.Proofs.YthnmienjiangkaaDoor.Pi.Q
open Go Go.Proofs.YthnmienjiangkaaDoor.Pi
noncomputable def u1u (v0 v4 : PV) : M PV := atP P X u0m [1, 1, 1, 1] (mkEnv 100 0 [(0, v0), (4, v4)])
noncomputable def u1a (v0 v4 v7 : PV) : M PV := atP P X u0m [1, 0, 1, 0, 1, 1, 1, 1] (mkEnv 100 0 [(0, v0), (4, v4), (7, v7)])
noncomputable def u16 (v0 v4 v7 : PV) : M PV := atP P X u0m [1, 0, 1, 0, 1, 1, 1, 1, 1] (mkEnv 100 0 [(0, v0), (4, v4), (7, v7)])
theorem u1j (v0 v4 : PV) : u1u v0 v4 =
 M.bind (fa 2 v4) fun t97_0 =>
 M.bind (ld none false t97_0) fun t98_1 =>
 M.bind (C u1n [(strip (strip v0)), (strip t98_1)]) fun t99_2 =>
 M.pure (.tup []) :=
 (u17 P X _ _ _).trans (by kernel_rfl)
theorem u03 (v0 v4 v7 : PV) : u1a v0 v4 v7 =
 M.bind (fa 0 v4) fun t51_0 =>
 M.bind (ld none false t51_0) fun t52_1 =>
 M.bind (bi .eql .none t52_1 (.int .i64 7)) fun t53_2 =>
 condM t53_2
 (u16 v0 v4 (.int .i64 119))
 (u16 v0 v4 v7) :=
 (u17 P X _ _ _).trans (by kernel_rfl)
theorem u02 (v0 v4 v7 : PV) : u16 v0 v4 v7 =
 M.bind (nc P (strip v0)) fun t56_0 =>
 M.bind (fa 0 t56_0) fun t57_1 =>
 M.bind (ld none true t57_1) fun t58_2 =>
 M.bind (cv (.int .u8) true (strip v7)) fun t60_3 =>
 M.bind (bs true none [t60_3]) fun t61_4 =>
 M.bind (ap true 1 1 t58_2 t61_4) fun t62_5 =>
 M.bind (nc P (strip v0)) fun t63_6 =>
 M.bind (fa 0 t63_6) fun t64_7 =>
 M.bind (st 1 true t64_7 t62_5) fun _ =>
 M.pure (.tup []) :=
 (u17 P X _ _ _).trans (by kernel_rfl)
theorem u4t (a0 a1 a2 : PV) : C u0m [a0, a1, a2] =
 trunc (M.bind (bx 3 a1) fun t4_0 =>
 M.bind (fa 0 t4_0) fun t8_1 =>
 M.bind (ld none false t8_1) fun t9_2 =>
 M.bind (bi .neq .none t9_2 (.int .i64 5)) fun t10_3 =>
 condM t10_3
 (M.bind (fa 0 t4_0) fun t11_4 =>
 M.bind (ld none false t11_4) fun t12_5 =>
 M.bind (bi .eql .none t12_5 (.int .i64 6)) fun t13_6 =>
 M.bind (gd (strip t13_6) false (fa 0 t4_0)) fun t15_7 =>
 M.bind (gd (strip t13_6) false (ld none false t15_7)) fun t16_8 =>
 M.bind (gd (strip t13_6) false (bi .eql .none t16_8 (.int .i64 7))) fun t17_9 =>
 M.bind (pick (strip t13_6) (.bool true) t17_9) fun t18_10 =>
 M.bind (fa 0 t4_0) fun t20_11 =>
 M.bind (ld none false t20_11) fun t21_12 =>
 M.bind (bi .geq .none t21_12 (.int .i64 1)) fun t22_13 =>
 M.bind (gd (strip t22_13) true (fa 0 t4_0)) fun t24_14 =>
 M.bind (gd (strip t22_13) true (ld none false t24_14)) fun t25_15 =>
 M.bind (gd (strip t22_13) true (bi .leq .none t25_15 (.int .i64 4))) fun t26_16 =>
 M.bind (pick (strip t22_13) t26_16 (.bool false)) fun t27_17 =>
 M.bind (gd (strip t27_17) false (M.pure (strip a2))) fun t29_18 =>
 M.bind (gd (strip t27_17) false (M.pure (strip t29_18))) fun t30_19 =>
 M.bind (gd t30_19 true (M.pure (strip t18_10))) fun t31_20 =>
 M.bind (gd (strip t27_17) false (pick t30_19 t31_20 (.bool false))) fun t32_21 =>
 M.bind (pick (strip t27_17) (.bool true) t32_21) fun t33_22 =>
 M.bind (gd (strip t33_22) true (fa 1 t4_0)) fun t35_23 =>
 M.bind (gd (strip t33_22) true (ld none false t35_23)) fun t36_24 =>
 M.bind (gd (strip t33_22) true (un .not t36_24)) fun t37_25 =>
 M.bind (pick (strip t33_22) t37_25 (.bool false)) fun t38_26 =>
 M.bind (gd (strip t38_26) true (fa 2 t4_0)) fun t40_27 =>
 M.bind (gd (strip t38_26) true (ld none false t40_27)) fun t41_28 =>
 M.bind (gd (strip t38_26) true (bi .eql .none t41_28 (.int .i64 0))) fun t42_29 =>
 M.bind (pick (strip t38_26) t42_29 (.bool false)) fun t43_30 =>
 M.bind (C u05 [(strip (strip a0)), (strip t43_30), (.int .i64 4)]) fun t44_31 =>
 M.bind (fa 0 t4_0) fun t45_32 =>
 M.bind (ld none false t45_32) fun t46_33 =>
 M.bind (bi .sub .none (.int .i64 128) t46_33) fun t47_34 =>
 M.bind (fa 0 t4_0) fun t48_35 =>
 M.bind (ld none false t48_35) fun t49_36 =>
 M.bind (bi .eql .none t49_36 (.int .i64 6)) fun t50_37 =>
 condM t50_37
 (u1a a0 t4_0 (.int .i64 120))
 (u1a a0 t4_0 t47_34))
 (M.bind (fa 1 t4_0) fun t65_38 =>
 M.bind (ld none false t65_38) fun t66_39 =>
 M.bind (gd (strip t66_39) true (fa 2 t4_0)) fun t68_40 =>
 M.bind (gd (strip t66_39) true (ld none false t68_40)) fun t69_41 =>
 M.bind (gd (strip t66_39) true (bi .lss .none t69_41 (.int .i64 0))) fun t70_42 =>
 M.bind (pick (strip t66_39) t70_42 (.bool false)) fun t71_43 =>
 condM t71_43
 (M.bind (fa 2 t4_0) fun t73_44 =>
 M.bind (ld none false t73_44) fun t74_45 =>
 M.bind (C u1n [(strip (strip a0)), (strip t74_45)]) fun t75_46 =>
 M.pure (.tup []))
 (M.bind (fa 1 t4_0) fun t76_47 =>
 M.bind (ld none false t76_47) fun t77_48 =>
 condM t77_48
 (M.bind (nc P (strip a0)) fun t80_49 =>
 M.bind (fa 0 t80_49) fun t81_50 =>
 M.bind (ld none true t81_50) fun t82_51 =>
 M.bind (bs true none [(.int .u8 99)]) fun t83_52 =>
 M.bind (ap true 1 1 t82_51 t83_52) fun t84_53 =>
 M.bind (nc P (strip a0)) fun t85_54 =>
 M.bind (fa 0 t85_54) fun t86_55 =>
 M.bind (st 1 true t86_55 t84_53) fun _ =>
 u1u a0 t4_0)
 (M.bind (nc P (strip a0)) fun t89_57 =>
 M.bind (fa 0 t89_57) fun t90_58 =>
 M.bind (ld none true t90_58) fun t91_59 =>
 M.bind (bs true none [(.int .u8 100)]) fun t92_60 =>
 M.bind (ap true 1 1 t91_59 t92_60) fun t93_61 =>
 M.bind (nc P (strip a0)) fun t94_62 =>
 M.bind (fa 0 t94_62) fun t95_63 =>
 M.bind (st 1 true t95_63 t93_61) fun _ =>
 u1u a0 t4_0)))) := by
 rw [C, u07 _ _ rfl]; kernel_rfl
noncomputable def u1v (v0 v4 : PV) : M PV := atP P X u1l [1, 1] (mkEnv 16 0 [(0, v0), (4, v4)])
theorem u3t (v0 v4 : PV) : u1v v0 v4 =
 M.bind (nc P (strip v0)) fun t8_0 =>
 M.bind (fa 0 t8_0) fun t9_1 =>
 M.bind (ld none true t9_1) fun t10_2 =>
 M.bind (bs true none [(strip v4)]) fun t12_3 =>
 M.bind (ap true 1 1 t10_2 t12_3) fun t13_4 =>
 M.bind (nc P (strip v0)) fun t14_5 =>
 M.bind (fa 0 t14_5) fun t15_6 =>
 M.bind (st 1 true t15_6 t13_4) fun _ =>
 M.pure (.tup []) :=
 (u17 P X _ _ _).trans (by kernel_rfl)
theorem u4l (a0 a1 : PV) : C u1l [a0, a1] =
 trunc (condM (strip a1)
 (u1v a0 (.int .u8 1))
 (u1v a0 (.int .u8 0))) := by
 rw [C, u07 _ _ rfl]; kernel_rfl
noncomputable def u35 (v0 v2 v3 : PV) : M PV := atP P X u3r [1, 1, 0, 0] (mkEnv 19 0 [(0, v0), (2, v2), (3, v3)])
theorem u55 (v0 v2 v3 : PV) : u35 v0 v2 v3 =
 M.bind (bi .gtr .none (strip v0) (.int .u64 127)) fun t5_0 =>
 condM t5_0
 (M.bind (cv (.int .u8) true (strip v0)) fun t10_1 =>
 M.bind (bi .or .none t10_1 (.int .u8 128)) fun t11_2 =>
 M.bind (bs true none [t11_2]) fun t12_3 =>
 M.bind (ap true 1 1 v3 t12_3) fun t13_4 =>
 M.bind (bi .shr .none (strip v0) (.int .u64 7)) fun t7_5 =>
 u35 t7_5 v2 t13_4)
 (M.bind (cv (.int .u8) true (strip v0)) fun t16_6 =>
 M.bind (bs true none [t16_6]) fun t17_7 =>
 M.bind (ap true 1 1 v3 t17_7) fun t18_8 =>
 resT t18_8 (M.pure t18_8)) :=
 (u17 P X _ _ _).trans (by kernel_rfl)
theorem uh8 (a0 : PV) : C u3r [a0] =
 trunc (u35 a0 (.slice false true 0 []) (.slice false true 0 [])) := by
 rw [C, u07 _ _ rfl]; kernel_rfl
noncomputable def u1c (v0 v2 v3 : PV) : M PV := atP P X u19 [1, 1, 0, 0] (mkEnv 20 0 [(0, v0), (2, v2), (3, v3)])
theorem u31 (v0 v2 v3 : PV) : u1c v0 v2 v3 =
 M.bind (bi .geq .none (strip v0) (.int .u64 128)) fun t5_0 =>
 condM t5_0
 (M.bind (bi .rem .none (strip v0) (.int .u64 128)) fun t8_1 =>
 M.bind (cv (.int .u8) true t8_1) fun t9_2 =>
 M.bind (bi .add .none t9_2 (.int .u8 128)) fun t10_3 =>
 M.bind (bs true none [t10_3]) fun t11_4 =>
 M.bind (ap true 1 1 v3 t11_4) fun t12_5 =>
 M.bind (bi .quo .none (strip v0) (.int .u64 128)) fun t14_6 =>
 u1c t14_6 v2 t12_5)
 (M.bind (cv (.int .u8) true (strip v0)) fun t17_7 =>
 M.bind (bs true none [t17_7]) fun t18_8 =>
 M.bind (ap true 1 1 v3 t18_8) fun t19_9 =>
 resT t19_9 (M.pure t19_9)) :=
 (u17 P X _ _ _).trans (by kernel_rfl)
theorem u6v (a0 : PV) : C u19 [a0] =
 trunc (u1c a0 (.slice false true 0 []) (.slice false true 0 [])) := by
 rw [C, u07 _ _ rfl]; kernel_rfl
noncomputable def u2q (v0 v3 : PV) : M PV := atP P X u2j [1, 1, 1] (mkEnv 49 0 [(0, v0), (3, v3)])
theorem u5w (v0 v3 : PV) : u2q v0 v3 =
 M.bind (fa 2 v3) fun t46_0 =>
 M.bind (ld none false t46_0) fun t47_1 =>
 M.bind (C u3h [(strip (strip v0)), (strip t47_1)]) fun t48_2 =>
 M.pure (.tup []) :=
 (u17 P X _ _ _).trans (by kernel_rfl)
theorem u5v (a0 a1 : PV) : C u2j [a0, a1] =
 trunc (M.bind (bx 3 a1) fun t3_0 =>
 M.bind (fa 0 t3_0) fun t4_1 =>
 M.bind (ld none false t4_1) fun t5_2 =>
 M.bind (bi .neq .none t5_2 (.int .i64 5)) fun t6_3 =>
 condM t6_3
 (M.bind (fa 0 t3_0) fun t8_4 =>
 M.bind (ld none false t8_4) fun t9_5 =>
 M.bind (bi .geq .none t9_5 (.int .i64 1)) fun t10_6 =>
 M.bind (gd (strip t10_6) true (fa 0 t3_0)) fun t12_7 =>
 M.bind (gd (strip t10_6) true (ld none false t12_7)) fun t13_8 =>
 M.bind (gd (strip t10_6) true (bi .leq .none t13_8 (.int .i64 4))) fun t14_9 =>
 M.bind (pick (strip t10_6) t14_9 (.bool false)) fun t15_10 =>
 M.bind (gd (strip t15_10) true (fa 1 t3_0)) fun t17_11 =>
 M.bind (gd (strip t15_10) true (ld none false t17_11)) fun t18_12 =>
 M.bind (gd (strip t15_10) true (un .not t18_12)) fun t19_13 =>
 M.bind (pick (strip t15_10) t19_13 (.bool false)) fun t20_14 =>
 M.bind (gd (strip t20_14) true (fa 2 t3_0)) fun t22_15 =>
 M.bind (gd (strip t20_14) true (ld none false t22_15)) fun t23_16 =>
 M.bind (gd (strip t20_14) true (bi .eql .none t23_16 (.int .i64 0))) fun t24_17 =>
 M.bind (pick (strip t20_14) t24_17 (.bool false)) fun t25_18 =>
 M.bind (C u0k [(strip (strip a0)), (strip t25_18)]) fun t26_19 =>
 M.bind (fa 0 t3_0) fun t28_20 =>
 M.bind (ld none false t28_20) fun t29_21 =>
 M.bind (cv (.int .u8) true t29_21) fun t30_22 =>
 M.bind (bi .sub .none (.int .u8 128) t30_22) fun t31_23 =>
 M.bind (C u0n [(strip (strip a0)), (strip t31_23)]) fun t32_24 =>
 M.pure (.tup []))
 (M.bind (fa 1 t3_0) fun t34_25 =>
 M.bind (ld none false t34_25) fun t35_26 =>
 M.bind (un .not t35_26) fun t36_27 =>
 condM t36_27
 (M.bind (C u0n [(strip (strip a0)), (.int .u8 100)]) fun t38_28 =>
 u2q a0 t3_0)
 (M.bind (fa 2 t3_0) fun t40_29 =>
 M.bind (ld none false t40_29) fun t41_30 =>
 M.bind (bi .geq .none t41_30 (.int .i64 0)) fun t42_31 =>
 condM t42_31
 (M.bind (C u0n [(strip (strip a0)), (.int .u8 99)]) fun t44_32 =>
 u2q a0 t3_0)
 (u2q a0 t3_0)))) := by
 rw [C, u07 _ _ rfl]; kernel_rfl
theorem u8b (a0 a1 : PV) : C u4f [a0, a1] =
 trunc (condM (strip a1)
 (M.bind (C u0n [(strip (strip a0)), (.int .u8 1)]) fun t6_0 =>
 M.pure (.tup []))
 (M.bind (C u0n [(strip (strip a0)), (.int .u8 0)]) fun t8_1 =>
 M.pure (.tup []))) := by
 rw [C, u07 _ _ rfl]; kernel_rfl
theorem u6b (a0 a1 : PV) : C u4g [a0, a1] =
 trunc (M.bind (ld (some 3) false a1) fun t4_0 =>
 M.bind (C u2j [(strip (strip a0)), (strip t4_0)]) fun t5_1 =>
 M.pure (.tup [])) := by
 rw [C, u07 _ _ rfl]; kernel_rfl
noncomputable def u06 (v0 v2 : PV) : M PV := atP P X u0w [1, 0, 0] (mkEnv 169 0 [(0, v0), (2, v2)])
noncomputable def u0p (v0 v2 v3 : PV) : M PV := atP P X u0w [1, 0, 0, 0, 1, 0, 1, 0, 1, 0, 1, 1] (mkEnv 169 0 [(0, v0), (2, v2), (3, v3)])
noncomputable def u0i (v0 v2 v3 : PV) : M PV := atP P X u0w [1, 0, 0, 0, 1, 0, 1, 0, 1, 0, 1, 0, 1, 0, 1, 1, 0, 1, 0] (mkEnv 169 0 [(0, v0), (2, v2), (3, v3)])
theorem u0q (v0 v2 : PV) : u06 v0 v2 =
 M.bind (lnS (strip v0)) fun t8_0 =>
 M.bind (bi .gtr .none t8_0 (.int .i64 0)) fun t9_1 =>
 condM t9_1
 (M.bind (ixS (strip v0) (.int .i64 0)) fun t11_2 =>
 M.bind (bi .lss .none (strip t11_2) (.int .u8 128)) fun t13_3 =>
 condM t13_3
 (M.bind (slS (strip v0) (some (.int .i64 1)) none) fun t15_4 =>
 M.bind (lnS (strip t15_4)) fun t17_5 =>
 M.bind (bi .gtr .none t17_5 (.int .i64 8)) fun t18_6 =>
 M.bind (gd (strip t18_6) true (M.pure (strip t15_4))) fun t20_7 =>
 M.bind (gd (strip t18_6) true (C u0f [(strip t20_7)])) fun t21_8 =>
 M.bind (gd (strip t18_6) true (bi .and .none t21_8 (.int .u64 9259542123273814144))) fun t22_9 =>
 M.bind (gd (strip t18_6) true (bi .eql .none t22_9 (.int .u64 0))) fun t23_10 =>
 M.bind (pick (strip t18_6) t23_10 (.bool false)) fun t24_11 =>
 condM t24_11
 (M.bind (slS (strip t15_4) (some (.int .i64 8)) none) fun t26_12 =>
 nb (lnS (strip t26_12)) fun t28_13 =>
 nb (bi .gtr .none t28_13 (.int .i64 16)) fun t29_14 =>
 nb (gd (strip t29_14) true (M.pure (strip t26_12))) fun t31_15 =>
 nb (gd (strip t29_14) true (C u0f [(strip t31_15)])) fun t32_16 =>
 nb (gd (strip t29_14) true (M.pure (strip t26_12))) fun t33_17 =>
 nb (gd (strip t29_14) true (slS t33_17 (some (.int .i64 8)) none)) fun t34_18 =>
 nb (gd (strip t29_14) true (C u0f [(strip t34_18)])) fun t35_19 =>
 nb (gd (strip t29_14) true (bi .or .none t32_16 t35_19)) fun t36_20 =>
 nb (gd (strip t29_14) true (bi .and .none t36_20 (.int .u64 9259542123273814144))) fun t37_21 =>
 nb (gd (strip t29_14) true (bi .eql .none t37_21 (.int .u64 0))) fun t38_22 =>
 nb (pick (strip t29_14) t38_22 (.bool false)) fun t39_23 =>
 condM t39_23
 (M.bind (slS (strip t26_12) (some (.int .i64 16)) none) fun t41_24 =>
 u0i t41_24 v2 t11_2)
 (u0p t26_12 v2 t11_2))
 (u0p t15_4 v2 t11_2))
 (M.bind (iaA 256 1 (GT 0) (strip t11_2)) fun t66_25 =>
 M.bind (ld none true t66_25) fun t67_26 =>
 M.bind (bi .and .none (strip t67_26) (.int .u8 7)) fun t69_27 =>
 M.bind (cv (.int .i64) true t69_27) fun t70_28 =>
 M.bind (bi .shr .none (strip t67_26) (.int .u64 4)) fun t72_29 =>
 M.bind (iaA 16 2 (GT 1) t72_29) fun t73_30 =>
 M.bind (ld (some 2) true t73_30) fun t74_31 =>
 M.bind (al [(.int .u8 0), (.int .u8 0)]) fun t6_32 =>
 M.bind (st 2 true t6_32 t74_31) fun _ =>
 M.bind (bi .eql .none (strip t70_28) (.int .i64 2)) fun t77_34 =>
 condM t77_34
 (nb (lnS (strip v0)) fun t79_35 =>
 nb (bi .lss .none t79_35 (.int .i64 2)) fun t80_36 =>
 nb (gd (strip t80_36) false (M.pure (strip v0))) fun t82_37 =>
 nb (gd (strip t80_36) false (ixS t82_37 (.int .i64 1))) fun t83_38 =>
 nb (gd (strip t80_36) false (fa 0 t6_32)) fun t84_39 =>
 nb (gd (strip t80_36) false (ld none false t84_39)) fun t85_40 =>
 nb (gd (strip t80_36) false (bi .lss .none t83_38 t85_40)) fun t86_41 =>
 nb (pick (strip t80_36) (.bool true) t86_41) fun t87_42 =>
 nb (gd (strip t87_42) false (fa 1 t6_32)) fun t89_43 =>
 nb (gd (strip t87_42) false (ld none false t89_43)) fun t90_44 =>
 nb (gd (strip t87_42) false (M.pure (strip v0))) fun t91_45 =>
 nb (gd (strip t87_42) false (ixS t91_45 (.int .i64 1))) fun t92_46 =>
 nb (gd (strip t87_42) false (bi .lss .none t90_44 t92_46)) fun t93_47 =>
 nb (pick (strip t87_42) (.bool true) t93_47) fun t94_48 =>
 condM t94_48
 (M.pure (.bool false))
 (M.bind (slS (strip v0) (some (.int .i64 2)) none) fun t96_49 =>
 u06 t96_49 v2))
 (M.bind (bi .eql .none (strip t70_28) (.int .i64 3)) fun t98_50 =>
 condM t98_50
 (nb (lnS (strip v0)) fun t100_51 =>
 nb (bi .lss .none t100_51 (.int .i64 3)) fun t101_52 =>
 nb (gd (strip t101_52) false (M.pure (strip v0))) fun t103_53 =>
 nb (gd (strip t101_52) false (ixS t103_53 (.int .i64 1))) fun t104_54 =>
 nb (gd (strip t101_52) false (fa 0 t6_32)) fun t105_55 =>
 nb (gd (strip t101_52) false (ld none false t105_55)) fun t106_56 =>
 nb (gd (strip t101_52) false (bi .lss .none t104_54 t106_56)) fun t107_57 =>
 nb (pick (strip t101_52) (.bool true) t107_57) fun t108_58 =>
 nb (gd (strip t108_58) false (fa 1 t6_32)) fun t110_59 =>
 nb (gd (strip t108_58) false (ld none false t110_59)) fun t111_60 =>
 nb (gd (strip t108_58) false (M.pure (strip v0))) fun t112_61 =>
 nb (gd (strip t108_58) false (ixS t112_61 (.int .i64 1))) fun t113_62 =>
 nb (gd (strip t108_58) false (bi .lss .none t111_60 t113_62)) fun t114_63 =>
 nb (pick (strip t108_58) (.bool true) t114_63) fun t115_64 =>
 nb (gd (strip t115_64) false (M.pure (strip v0))) fun t117_65 =>
 nb (gd (strip t115_64) false (ixS t117_65 (.int .i64 2))) fun t118_66 =>
 nb (gd (strip t115_64) false (bi .lss .none t118_66 (.int .u8 128))) fun t119_67 =>
 nb (pick (strip t115_64) (.bool true) t119_67) fun t120_68 =>
 nb (gd (strip t120_68) false (M.pure (strip v0))) fun t122_69 =>
 nb (gd (strip t120_68) false (ixS t122_69 (.int .i64 2))) fun t123_70 =>
 nb (gd (strip t120_68) false (bi .lss .none (.int .u8 191) t123_70)) fun t124_71 =>
 nb (pick (strip t120_68) (.bool true) t124_71) fun t125_72 =>
 condM t125_72
 (M.pure (.bool false))
 (M.bind (slS (strip v0) (some (.int .i64 3)) none) fun t127_73 =>
 u06 t127_73 v2))
 (M.bind (bi .eql .none (strip t70_28) (.int .i64 4)) fun t129_74 =>
 condM t129_74
 (nb (lnS (strip v0)) fun t131_75 =>
 nb (bi .lss .none t131_75 (.int .i64 4)) fun t132_76 =>
 nb (gd (strip t132_76) false (M.pure (strip v0))) fun t134_77 =>
 nb (gd (strip t132_76) false (ixS t134_77 (.int .i64 1))) fun t135_78 =>
 nb (gd (strip t132_76) false (fa 0 t6_32)) fun t136_79 =>
 nb (gd (strip t132_76) false (ld none false t136_79)) fun t137_80 =>
 nb (gd (strip t132_76) false (bi .lss .none t135_78 t137_80)) fun t138_81 =>
 nb (pick (strip t132_76) (.bool true) t138_81) fun t139_82 =>
 nb (gd (strip t139_82) false (fa 1 t6_32)) fun t141_83 =>
 nb (gd (strip t139_82) false (ld none false t141_83)) fun t142_84 =>
 nb (gd (strip t139_82) false (M.pure (strip v0))) fun t143_85 =>
 nb (gd (strip t139_82) false (ixS t143_85 (.int .i64 1))) fun t144_86 =>
 nb (gd (strip t139_82) false (bi .lss .none t142_84 t144_86)) fun t145_87 =>
 nb (pick (strip t139_82) (.bool true) t145_87) fun t146_88 =>
 nb (gd (strip t146_88) false (M.pure (strip v0))) fun t148_89 =>
 nb (gd (strip t146_88) false (ixS t148_89 (.int .i64 2))) fun t149_90 =>
 nb (gd (strip t146_88) false (bi .lss .none t149_90 (.int .u8 128))) fun t150_91 =>
 nb (pick (strip t146_88) (.bool true) t150_91) fun t151_92 =>
 nb (gd (strip t151_92) false (M.pure (strip v0))) fun t153_93 =>
 nb (gd (strip t151_92) false (ixS t153_93 (.int .i64 2))) fun t154_94 =>
 nb (gd (strip t151_92) false (bi .lss .none (.int .u8 191) t154_94)) fun t155_95 =>
 nb (pick (strip t151_92) (.bool true) t155_95) fun t156_96 =>
 nb (gd (strip t156_96) false (M.pure (strip v0))) fun t158_97 =>
 nb (gd (strip t156_96) false (ixS t158_97 (.int .i64 3))) fun t159_98 =>
 nb (gd (strip t156_96) false (bi .lss .none t159_98 (.int .u8 128))) fun t160_99 =>
 nb (pick (strip t156_96) (.bool true) t160_99) fun t161_100 =>
 nb (gd (strip t161_100) false (M.pure (strip v0))) fun t163_101 =>
 nb (gd (strip t161_100) false (ixS t163_101 (.int .i64 3))) fun t164_102 =>
 nb (gd (strip t161_100) false (bi .lss .none (.int .u8 191) t164_102)) fun t165_103 =>
 nb (pick (strip t161_100) (.bool true) t165_103) fun t166_104 =>
 condM t166_104
 (M.pure (.bool false))
 (M.bind (slS (strip v0) (some (.int .i64 4)) none) fun t168_105 =>
 u06 t168_105 v2))
 (M.pure (.bool false))))))
 (M.pure (.bool true)) :=
 (u17 P X _ _ _).trans (by kernel_rfl)
theorem u08 (v0 v2 v3 : PV) : u0p v0 v2 v3 =
 u06 v0 v2 :=
 (u17 P X _ _ _).trans (by kernel_rfl)
theorem u2b (v0 v2 v3 : PV) : u0i v0 v2 v3 =
 nb (lnS (strip v0)) fun t43_0 =>
 nb (bi .gtr .none t43_0 (.int .i64 32)) fun t44_1 =>
 nb (gd (strip t44_1) true (M.pure (strip v0))) fun t46_2 =>
 nb (gd (strip t44_1) true (C u0f [(strip t46_2)])) fun t47_3 =>
 nb (gd (strip t44_1) true (M.pure (strip v0))) fun t48_4 =>
 nb (gd (strip t44_1) true (slS t48_4 (some (.int .i64 8)) none)) fun t49_5 =>
 nb (gd (strip t44_1) true (C u0f [(strip t49_5)])) fun t50_6 =>
 nb (gd (strip t44_1) true (bi .or .none t47_3 t50_6)) fun t51_7 =>
 nb (gd (strip t44_1) true (M.pure (strip v0))) fun t52_8 =>
 nb (gd (strip t44_1) true (slS t52_8 (some (.int .i64 16)) none)) fun t53_9 =>
 nb (gd (strip t44_1) true (C u0f [(strip t53_9)])) fun t54_10 =>
 nb (gd (strip t44_1) true (M.pure (strip v0))) fun t55_11 =>
 nb (gd (strip t44_1) true (slS t55_11 (some (.int .i64 24)) none)) fun t56_12 =>
 nb (gd (strip t44_1) true (C u0f [(strip t56_12)])) fun t57_13 =>
 nb (gd (strip t44_1) true (bi .or .none t54_10 t57_13)) fun t58_14 =>
 nb (gd (strip t44_1) true (bi .or .none t51_7 t58_14)) fun t59_15 =>
 nb (gd (strip t44_1) true (bi .and .none t59_15 (.int .u64 9259542123273814144))) fun t60_16 =>
 nb (gd (strip t44_1) true (bi .eql .none t60_16 (.int .u64 0))) fun t61_17 =>
 nb (pick (strip t44_1) t61_17 (.bool false)) fun t62_18 =>
 condM t62_18
 (M.bind (slS (strip v0) (some (.int .i64 32)) none) fun t64_19 =>
 u0i t64_19 v2 v3)
 (u0p v0 v2 v3) :=
 (u17 P X _ _ _).trans (by kernel_rfl)
theorem u4v (a0 : PV) : C u0w [a0] =
 trunc (u06 a0 (.bool false)) := by
 rw [C, u07 _ _ rfl]; kernel_rfl
theorem ucz (a0 : PV) : C u3q [a0] =
 trunc (M.bind (bi .geq .none (strip a0) (.int .i64 0)) fun t4_0 =>
 M.bind (gd (strip t4_0) true (M.pure (strip a0))) fun t6_1 =>
 M.bind (gd (strip t4_0) true (bi .leq .none t6_1 (.int .i64 2147483647))) fun t7_2 =>
 M.bind (pick (strip t4_0) t7_2 (.bool false)) fun t8_3 =>
 resT t8_3 (M.pure t8_3)) := by
 rw [C, u07 _ _ rfl]; kernel_rfl
noncomputable def u0z (v0 v2 v3 v4 : PV) : M PV := atP P X u26 [1, 0, 1, 0] (mkEnv 51 0 [(0, v0), (2, v2), (3, v3), (4, v4)])
noncomputable def u0u (v0 v2 v3 v4 v5 v6 : PV) : M PV := atP P X u26 [1, 0, 1, 0, 0, 1, 0, 1, 1, 0, 1, 0] (mkEnv 51 0 [(0, v0), (2, v2), (3, v3), (4, v4), (5, v5), (6, v6)])
theorem u4w (v0 v2 v3 v4 : PV) : u0z v0 v2 v3 v4 =
 M.bind (lnL (strip v0)) fun t9_0 =>
 M.bind (bi .lss .none (strip v4) t9_0) fun t10_1 =>
 condM t10_1
 (M.bind (iaS 1 (strip v0) (strip v4)) fun t13_2 =>
 M.bind (ld none false t13_2) fun t14_3 =>
 M.bind (C u37 [(strip t14_3)]) fun t15_4 =>
 M.bind (bi .eql .none (strip t15_4) (.int .i64 0)) fun t17_5 =>
 condM t17_5
 (resT v4 (M.pure (.tup [v4, (.bool false)])))
 (u0u v0 v2 v3 v4 t15_4 (.int .i64 1)))
 (M.pure (.tup [(.int .i64 0), (.bool true)])) :=
 (u17 P X _ _ _).trans (by kernel_rfl)
theorem u28 (v0 v2 v3 v4 v5 v6 : PV) : u0u v0 v2 v3 v4 v5 v6 =
 M.bind (bi .lss .none (strip v6) (strip v5)) fun t21_0 =>
 condM t21_0
 (M.bind (bi .add .none (strip v4) (strip v6)) fun t26_1 =>
 M.bind (lnL (strip v0)) fun t28_2 =>
 M.bind (bi .geq .none t26_1 t28_2) fun t29_3 =>
 condM t29_3
 (M.bind (lnL (strip v0)) fun t31_4 =>
 resT t31_4 (M.pure (.tup [t31_4, (.bool false)])))
 (M.bind (noPan (M.pure (strip v0))) fun t32_18 =>
 M.bind (noPan (M.pure (strip v4))) fun t33_19 =>
 M.bind (noPan (iaS 1 t32_18 t33_19)) fun t34_20 =>
 M.bind (noPan (M.pure (strip v6))) fun t36_21 =>
 M.bind (noPan (M.pure (strip v0))) fun t37_22 =>
 M.bind (noPan (M.pure (strip v4))) fun t38_23 =>
 M.bind (noPan (M.pure (strip v6))) fun t39_24 =>
 M.bind (noPan (bi .add .none t38_23 t39_24)) fun t40_25 =>
 M.bind (noPan (iaS 1 t37_22 t40_25)) fun t41_26 =>
 M.bind (noPan (ld none false t34_20)) fun t35_27 =>
 M.bind (noPan (ld none false t41_26)) fun t42_28 =>
 M.bind (noPan (C u29 [(strip t35_27), (strip t36_21), (strip t42_28)])) fun t43_29 =>
 M.bind (noPan (un .not t43_29)) fun t44_30 =>
 condM t44_30
 (M.bind (bi .add .none (strip v4) (strip v6)) fun t47_31 =>
 resT t47_31 (M.pure (.tup [t47_31, (.bool false)])))
 (M.bind (bi .add .none (strip v6) (.int .i64 1)) fun t23_32 =>
 u0u v0 v2 v3 v4 v5 t23_32)))
 (M.bind (bi .add .none (strip v4) (strip v5)) fun t50_33 =>
 u0z v0 v2 v3 t50_33) :=
 (u17 P X _ _ _).trans (by kernel_rfl)
theorem u6t (a0 : PV) : C u26 [a0] =
 trunc (u0z a0 (.int .i64 0) (.bool false) (.int .i64 0)) := by
 rw [C, u07 _ _ rfl]; kernel_rfl
theorem u4m (a0 a1 : PV) : C u1n [a0, a1] =
 trunc (M.bind (bi .lss .none (strip a1) (.int .i64 0)) fun t5_0 =>
 condM t5_0
 (M.bind (bi .geq .none (strip a1) (.int .i64 (-12))) fun t8_1 =>
 M.bind (C u05 [(strip (strip a0)), (strip t8_1), (.int .i64 4)]) fun t9_2 =>
 chk
 (M.bind (noPan (M.pure (strip a0))) fun t10_15 =>
 M.bind (noPan (M.pure (strip a0))) fun t11_16 =>
 M.bind (noPan (nc P t11_16)) fun t12_17 =>
 M.bind (noPan (fa 0 t12_17)) fun t13_18 =>
 M.bind (noPan (M.pure (strip a1))) fun t15_19 =>
 M.bind (noPan (C u1t [(strip t15_19)])) fun t16_20 =>
 M.bind (noPan (bs true none [t16_20])) fun t17_21 =>
 M.bind (noPan (ld none true t13_18)) fun t14_22 =>
 M.bind (noPan (ap true 1 1 t14_22 t17_21)) fun t18_23 =>
 M.bind (noPan (nc P t10_15)) fun t19_24 =>
 M.bind (noPan (fa 0 t19_24)) fun t20_25 =>
 M.bind (noPan (st 1 true t20_25 t18_23)) fun _ =>
 M.pure [a0, a1, .undef, .undef, (strip a1), t5_0, (strip a0), (strip a1), t8_1, t9_2, t10_15, t11_16, t12_17, t13_18, (strip t14_22), t15_19, t16_20, t17_21, (strip t18_23), t19_24, t20_25, .undef, .undef, .undef, .undef, .undef, .undef, .undef, .undef, .undef, .undef, .undef, .undef, .undef, .undef])
 (M.bind (noPan (M.pure (strip a0))) fun t10_3 =>
 M.bind (noPan (M.pure (strip a0))) fun t11_4 =>
 M.bind (noPan (nc P t11_4)) fun t12_5 =>
 M.bind (noPan (fa 0 t12_5)) fun t13_6 =>
 M.bind (noPan (M.pure (strip a1))) fun t15_7 =>
 M.bind (noPan (ld none true t13_6)) fun t14_8 =>
 M.bind (noPan (C u1t [(strip t15_7)])) fun t16_9 =>
 M.bind (noPan (bs true none [t16_9])) fun t17_10 =>
 M.bind (noPan (ap true 1 1 t14_8 t17_10)) fun t18_11 =>
 M.bind (noPan (nc P t10_3)) fun t19_12 =>
 M.bind (noPan (fa 0 t19_12)) fun t20_13 =>
 M.bind (noPan (st 1 true t20_13 t18_11)) fun _ =>
 M.pure [a0, a1, .undef, .undef, (strip a1), t5_0, (strip a0), (strip a1), t8_1, t9_2, t10_3, t11_4, t12_5, t13_6, (strip t14_8), t15_7, t16_9, t17_10, (strip t18_11), t19_12, t20_13, .undef, .undef, .undef, .undef, .undef, .undef, .undef, .undef, .undef, .undef, .undef, .undef, .undef, .undef]) <|
 M.bind (noPan (M.pure (strip a0))) fun t10_27 =>
 M.bind (noPan (M.pure (strip a0))) fun t11_28 =>
 M.bind (noPan (nc P t11_28)) fun t12_29 =>
 M.bind (noPan (fa 0 t12_29)) fun t13_30 =>
 M.bind (noPan (M.pure (strip a1))) fun t15_31 =>
 M.bind (noPan (ld none true t13_30)) fun t14_32 =>
 M.bind (noPan (C u1t [(strip t15_31)])) fun t16_33 =>
 M.bind (noPan (bs true none [t16_33])) fun t17_34 =>
 M.bind (noPan (ap true 1 1 t14_32 t17_34)) fun t18_35 =>
 M.bind (noPan (nc P t10_27)) fun t19_36 =>
 M.bind (noPan (fa 0 t19_36)) fun t20_37 =>
 M.bind (noPan (st 1 true t20_37 t18_35)) fun _ =>
 M.pure (.tup []))
 (M.bind (bi .lss .none (strip a1) (.int .i64 2147483648)) fun t23_39 =>
 M.bind (C u05 [(strip (strip a0)), (strip t23_39), (.int .i64 4)]) fun t24_40 =>
 chk
 (M.bind (noPan (M.pure (strip a0))) fun t25_52 =>
 M.bind (noPan (M.pure (strip a0))) fun t26_53 =>
 M.bind (noPan (nc P t26_53)) fun t27_54 =>
 M.bind (noPan (fa 0 t27_54)) fun t28_55 =>
 M.bind (noPan (M.pure (strip a1))) fun t30_56 =>
 M.bind (noPan (C u1r [(strip t30_56)])) fun t31_57 =>
 M.bind (noPan (ld none true t28_55)) fun t29_58 =>
 M.bind (noPan (ap true 1 1 t29_58 t31_57)) fun t32_59 =>
 M.bind (noPan (nc P t25_52)) fun t33_60 =>
 M.bind (noPan (fa 0 t33_60)) fun t34_61 =>
 M.bind (noPan (st 1 true t34_61 t32_59)) fun _ =>
 M.pure [a0, a1, .undef, .undef, (strip a1), t5_0, .undef, .undef, .undef, .undef, .undef, .undef, .undef, .undef, .undef, .undef, .undef, .undef, .undef, .undef, .undef, (strip a0), (strip a1), t23_39, t24_40, t25_52, t26_53, t27_54, t28_55, (strip t29_58), t30_56, t31_57, (strip t32_59), t33_60, t34_61])
 (M.bind (noPan (M.pure (strip a0))) fun t25_41 =>
 M.bind (noPan (M.pure (strip a0))) fun t26_42 =>
 M.bind (noPan (nc P t26_42)) fun t27_43 =>
 M.bind (noPan (fa 0 t27_43)) fun t28_44 =>
 M.bind (noPan (M.pure (strip a1))) fun t30_45 =>
 M.bind (noPan (ld none true t28_44)) fun t29_46 =>
 M.bind (noPan (C u1r [(strip t30_45)])) fun t31_47 =>
 M.bind (noPan (ap true 1 1 t29_46 t31_47)) fun t32_48 =>
 M.bind (noPan (nc P t25_41)) fun t33_49 =>
 M.bind (noPan (fa 0 t33_49)) fun t34_50 =>
 M.bind (noPan (st 1 true t34_50 t32_48)) fun _ =>
 M.pure [a0, a1, .undef, .undef, (strip a1), t5_0, .undef, .undef, .undef, .undef, .undef, .undef, .undef, .undef, .undef, .undef, .undef, .undef, .undef, .undef, .undef, (strip a0), (strip a1), t23_39, t24_40, t25_41, t26_42, t27_43, t28_44, (strip t29_46), t30_45, t31_47, (strip t32_48), t33_49, t34_50]) <|
 M.bind (noPan (M.pure (strip a0))) fun t25_63 =>
 M.bind (noPan (M.pure (strip a0))) fun t26_64 =>
 M.bind (noPan (nc P t26_64)) fun t27_65 =>
 M.bind (noPan (fa 0 t27_65)) fun t28_66 =>
 M.bind (noPan (M.pure (strip a1))) fun t30_67 =>
 M.bind (noPan (ld none true t28_66)) fun t29_68 =>
 M.bind (noPan (C u1r [(strip t30_67)])) fun t31_69 =>
 M.bind (noPan (ap true 1 1 t29_68 t31_69)) fun t32_70 =>
 M.bind (noPan (nc P t25_63)) fun t33_71 =>
 M.bind (noPan (fa 0 t33_71)) fun t34_72 =>
 M.bind (noPan (st 1 true t34_72 t32_70)) fun _ =>
 M.pure (.tup []))) := by
 rw [C, u07 _ _ rfl]; kernel_rfl
noncomputable def u0s (v0 v1 v22 v23 : PV) : M PV := atP P X u3h [1, 0, 1, 0] (mkEnv 38 0 [(0, v0), (1, v1), (22, v22), (23, v23)])
theorem u3o (v0 v1 v22 v23 : PV) : u0s v0 v1 v22 v23 =
 M.bind (bi .lss .none v23 (.int .i64 12)) fun t24_0 =>
 condM t24_0
 (M.bind (ixA 12 1 none v22 (strip v23)) fun t26_1 =>
 M.bind (bi .eql .none (strip t26_1) (strip v1)) fun t29_2 =>
 condM t29_2
 (M.bind (cv (.int .u8) true (strip v23)) fun t32_3 =>
 M.bind (bi .add .none (.int .u8 105) t32_3) fun t33_4 =>
 M.bind (C u0n [(strip (strip v0)), (strip t33_4)]) fun t34_5 =>
 M.pure (.tup []))
 (M.bind (bi .add .none (strip v23) (.int .i64 1)) fun t35_6 =>
 u0s v0 v1 v22 (strip t35_6)))
 (M.bind (C u0k [(strip (strip v0)), (.bool false)]) fun t37_7 =>
 M.pure (.tup [])) :=
 (u17 P X _ _ _).trans (by kernel_rfl)
theorem u8n (a0 a1 : PV) : C u3h [a0, a1] =
 trunc (M.bind (bi .geq .none (strip a1) (.int .i64 0)) fun t7_0 =>
 condM t7_0
 (M.bind (C u3q [(strip (strip a1))]) fun t10_1 =>
 M.bind (C u0k [(strip (strip a0)), (strip t10_1)]) fun t11_2 =>
 chk
 (M.bind (noPan (M.pure (strip a0))) fun t12_14 =>
 M.bind (noPan (M.pure (strip a0))) fun t13_15 =>
 M.bind (noPan (nc P t13_15)) fun t14_16 =>
 M.bind (noPan (fa 0 t14_16)) fun t15_17 =>
 M.bind (noPan (M.pure (strip a1))) fun t17_18 =>
 M.bind (noPan (C u3y [(strip t17_18)])) fun t18_19 =>
 M.bind (noPan (ld none true t15_17)) fun t16_20 =>
 M.bind (noPan (ap true 1 1 t16_20 t18_19)) fun t19_21 =>
 M.bind (noPan (nc P t12_14)) fun t20_22 =>
 M.bind (noPan (fa 0 t20_22)) fun t21_23 =>
 M.bind (noPan (st 1 true t21_23 t19_21)) fun _ =>
 M.pure [a0, a1, .undef, .undef, .undef, .undef, (strip a1), t7_0, (strip a0), (strip a1), t10_1, t11_2, t12_14, t13_15, t14_16, t15_17, (strip t16_20), t17_18, t18_19, (strip t19_21), t20_22, t21_23, .undef, .undef, .undef, .undef, .undef, .undef, .undef, .undef, .undef, .undef, .undef, .undef, .undef, .undef, .undef, .undef])
 (M.bind (noPan (M.pure (strip a0))) fun t12_3 =>
 M.bind (noPan (M.pure (strip a0))) fun t13_4 =>
 M.bind (noPan (nc P t13_4)) fun t14_5 =>
 M.bind (noPan (fa 0 t14_5)) fun t15_6 =>
 M.bind (noPan (M.pure (strip a1))) fun t17_7 =>
 M.bind (noPan (ld none true t15_6)) fun t16_8 =>
 M.bind (noPan (C u3y [(strip t17_7)])) fun t18_9 =>
 M.bind (noPan (ap true 1 1 t16_8 t18_9)) fun t19_10 =>
 M.bind (noPan (nc P t12_3)) fun t20_11 =>
 M.bind (noPan (fa 0 t20_11)) fun t21_12 =>
 M.bind (noPan (st 1 true t21_12 t19_10)) fun _ =>
 M.pure [a0, a1, .undef, .undef, .undef, .undef, (strip a1), t7_0, (strip a0), (strip a1), t10_1, t11_2, t12_3, t13_4, t14_5, t15_6, (strip t16_8), t17_7, t18_9, (strip t19_10), t20_11, t21_12, .undef, .undef, .undef, .undef, .undef, .undef, .undef, .undef, .undef, .undef, .undef, .undef, .undef, .undef, .undef, .undef]) <|
 M.bind (noPan (M.pure (strip a0))) fun t12_25 =>
 M.bind (noPan (M.pure (strip a0))) fun t13_26 =>
 M.bind (noPan (nc P t13_26)) fun t14_27 =>
 M.bind (noPan (fa 0 t14_27)) fun t15_28 =>
 M.bind (noPan (M.pure (strip a1))) fun t17_29 =>
 M.bind (noPan (ld none true t15_28)) fun t16_30 =>
 M.bind (noPan (C u3y [(strip t17_29)])) fun t18_31 =>
 M.bind (noPan (ap true 1 1 t16_30 t18_31)) fun t19_32 =>
 M.bind (noPan (nc P t12_25)) fun t20_33 =>
 M.bind (noPan (fa 0 t20_33)) fun t21_34 =>
 M.bind (noPan (st 1 true t21_34 t19_32)) fun _ =>
 M.pure (.tup []))
 (M.bind (C u3k []) fun t22_36 =>
 u0s a0 a1 t22_36 (.int .i64 0))) := by
 rw [C, u07 _ _ rfl]; kernel_rfl
theorem u4x (a0 : PV) : C u0f [a0] =
 trunc (nb (ixS (strip a0) (.int .i64 0)) fun t22_0 =>
 nb (cv (.int .u64) true t22_0) fun t23_1 =>
 nb (ixS (strip a0) (.int .i64 1)) fun t25_2 =>
 nb (cv (.int .u64) true t25_2) fun t26_3 =>
 nb (bi .shl .none t26_3 (.int .u64 8)) fun t27_4 =>
 nb (bi .or .none t23_1 t27_4) fun t28_5 =>
 nb (ixS (strip a0) (.int .i64 2)) fun t30_6 =>
 nb (cv (.int .u64) true t30_6) fun t31_7 =>
 nb (bi .shl .none t31_7 (.int .u64 16)) fun t32_8 =>
 nb (bi .or .none t28_5 t32_8) fun t33_9 =>
 nb (ixS (strip a0) (.int .i64 3)) fun t35_10 =>
 nb (cv (.int .u64) true t35_10) fun t36_11 =>
 nb (bi .shl .none t36_11 (.int .u64 24)) fun t37_12 =>
 nb (bi .or .none t33_9 t37_12) fun t38_13 =>
 nb (ixS (strip a0) (.int .i64 4)) fun t40_14 =>
 nb (cv (.int .u64) true t40_14) fun t41_15 =>
 nb (bi .shl .none t41_15 (.int .u64 32)) fun t42_16 =>
 nb (bi .or .none t38_13 t42_16) fun t43_17 =>
 nb (ixS (strip a0) (.int .i64 5)) fun t45_18 =>
 nb (cv (.int .u64) true t45_18) fun t46_19 =>
 nb (bi .shl .none t46_19 (.int .u64 40)) fun t47_20 =>
 nb (bi .or .none t43_17 t47_20) fun t48_21 =>
 nb (ixS (strip a0) (.int .i64 6)) fun t50_22 =>
 nb (cv (.int .u64) true t50_22) fun t51_23 =>
 nb (bi .shl .none t51_23 (.int .u64 48)) fun t52_24 =>
 nb (bi .or .none t48_21 t52_24) fun t53_25 =>
 nb (ixS (strip a0) (.int .i64 7)) fun t55_26 =>
 nb (cv (.int .u64) true t55_26) fun t56_27 =>
 nb (bi .shl .none t56_27 (.int .u64 56)) fun t57_28 =>
 nb (bi .or .none t53_25 t57_28) fun t58_29 =>
 resT t58_29 (M.pure t58_29)) := by
 rw [C, u07 _ _ rfl]; kernel_rfl
theorem u5z (a0 : PV) : C u37 [a0] =
 trunc (M.bind (bi .lss .none (strip a0) (.int .u8 128)) fun t5_0 =>
 condM t5_0
 (M.pure (.int .i64 1))
 (M.bind (bi .geq .none (strip a0) (.int .u8 194)) fun t8_1 =>
 M.bind (gd (strip t8_1) true (M.pure (strip a0))) fun t10_2 =>
 M.bind (gd (strip t8_1) true (bi .leq .none t10_2 (.int .u8 223))) fun t11_3 =>
 M.bind (pick (strip t8_1) t11_3 (.bool false)) fun t12_4 =>
 condM t12_4
 (M.pure (.int .i64 2))
 (M.bind (bi .geq .none (strip a0) (.int .u8 224)) fun t15_5 =>
 M.bind (gd (strip t15_5) true (M.pure (strip a0))) fun t17_6 =>
 M.bind (gd (strip t15_5) true (bi .leq .none t17_6 (.int .u8 239))) fun t18_7 =>
 M.bind (pick (strip t15_5) t18_7 (.bool false)) fun t19_8 =>
 condM t19_8
 (M.pure (.int .i64 3))
 (M.bind (bi .geq .none (strip a0) (.int .u8 240)) fun t22_9 =>
 M.bind (gd (strip t22_9) true (M.pure (strip a0))) fun t24_10 =>
 M.bind (gd (strip t22_9) true (bi .leq .none t24_10 (.int .u8 244))) fun t25_11 =>
 M.bind (pick (strip t22_9) t25_11 (.bool false)) fun t26_12 =>
 condM t26_12
 (M.pure (.int .i64 4))
 (M.pure (.int .i64 0)))))) := by
 rw [C, u07 _ _ rfl]; kernel_rfl
noncomputable def u04 (v2 v6 v7 v8 : PV) : M PV := atP P X u29 [1, 1, 1] (mkEnv 28 0 [(2, v2), (6, v6), (7, v7), (8, v8)])
theorem u48 (v2 v6 v7 v8 : PV) : u04 v2 v6 v7 v8 =
 M.bind (bi .geq .none (strip v2) (strip v7)) fun t22_0 =>
 M.bind (gd (strip t22_0) true (M.pure (strip v2))) fun t24_1 =>
 M.bind (gd (strip t22_0) true (M.pure (strip v8))) fun t25_2 =>
 M.bind (gd (strip t22_0) true (bi .leq .none t24_1 t25_2)) fun t26_3 =>
 M.bind (pick (strip t22_0) t26_3 (.bool false)) fun t27_4 =>
 resT t27_4 (M.pure t27_4) :=
 (u17 P X _ _ _).trans (by kernel_rfl)
theorem u5k (a0 a1 a2 : PV) : C u29 [a0, a1, a2] =
 trunc (M.bind (bi .eql .none (strip a1) (.int .i64 1)) fun t10_0 =>
 condM t10_0
 (M.bind (bi .eql .none (strip a0) (.int .u8 224)) fun t13_1 =>
 condM t13_1
 (u04 a2 (.bool false) (.int .u8 160) (.int .u8 191))
 (M.bind (bi .eql .none (strip a0) (.int .u8 237)) fun t15_2 =>
 condM t15_2
 (u04 a2 (.bool false) (.int .u8 128) (.int .u8 159))
 (M.bind (bi .eql .none (strip a0) (.int .u8 240)) fun t17_3 =>
 condM t17_3
 (u04 a2 (.bool false) (.int .u8 144) (.int .u8 191))
 (M.bind (bi .eql .none (strip a0) (.int .u8 244)) fun t19_4 =>
 condM t19_4
 (u04 a2 (.bool false) (.int .u8 128) (.int .u8 143))
 (u04 a2 (.bool false) (.int .u8 128) (.int .u8 191))))))
 (u04 a2 (.bool false) (.int .u8 128) (.int .u8 191))) := by
 rw [C, u07 _ _ rfl]; kernel_rfl
noncomputable def u1b (v0 v2 v3 : PV) : M PV := atP P X u1t [1, 0, 1, 0] (mkEnv 15 0 [(0, v0), (2, v2), (3, v3)])
theorem u2z (v0 v2 v3 : PV) : u1b v0 v2 v3 =
 M.bind (bi .leq .none (strip v3) (.int .i64 116)) fun t5_0 =>
 condM t5_0
 (M.bind (cv (.int .u8) true (strip v3)) fun t9_1 =>
 M.bind (C u2u [(strip t9_1)]) fun t10_2 =>
 M.bind (bi .eql .none t10_2 (strip v0)) fun t12_3 =>
 condM t12_3
 (M.bind (cv (.int .u8) true (strip v3)) fun t14_4 =>
 resT t14_4 (M.pure t14_4))
 (M.bind (bi .add .none (strip v3) (.int .i64 1)) fun t7_5 =>
 u1b v0 v2 t7_5))
 (M.pure (.int .u8 0)) :=
 (u17 P X _ _ _).trans (by kernel_rfl)
theorem u6r (a0 : PV) : C u1t [a0] =
 trunc (u1b a0 (.int .u8 0) (.int .i64 105)) := by
 rw [C, u07 _ _ rfl]; kernel_rfl
noncomputable def u1e (v0 v2 v3 : PV) : M PV := atP P X u1r [1, 1, 0, 0] (mkEnv 25 0 [(0, v0), (2, v2), (3, v3)])
theorem u34 (v0 v2 v3 : PV) : u1e v0 v2 v3 =
 M.bind (bi .lss .none (strip v0) (.int .i64 (-64))) fun t5_0 =>
 M.bind (gd (strip t5_0) false (M.pure (strip v0))) fun t7_1 =>
 M.bind (gd (strip t5_0) false (bi .gtr .none t7_1 (.int .i64 63))) fun t8_2 =>
 M.bind (pick (strip t5_0) (.bool true) t8_2) fun t9_3 =>
 condM t9_3
 (M.bind (bi .and .none (strip v0) (.int .i64 127)) fun t12_4 =>
 M.bind (cv (.int .u8) true t12_4) fun t13_5 =>
 M.bind (bi .add .none t13_5 (.int .u8 128)) fun t14_6 =>
 M.bind (bs true none [t14_6]) fun t15_7 =>
 M.bind (ap true 1 1 v3 t15_7) fun t16_8 =>
 M.bind (bi .shr .none (strip v0) (.int .u64 7)) fun t18_9 =>
 u1e t18_9 v2 t16_8)
 (M.bind (bi .and .none (strip v0) (.int .i64 127)) fun t21_10 =>
 M.bind (cv (.int .u8) true t21_10) fun t22_11 =>
 M.bind (bs true none [t22_11]) fun t23_12 =>
 M.bind (ap true 1 1 v3 t23_12) fun t24_13 =>
 resT t24_13 (M.pure t24_13)) :=
 (u17 P X _ _ _).trans (by kernel_rfl)
theorem u6u (a0 : PV) : C u1r [a0] =
 trunc (u1e a0 (.slice false true 0 []) (.slice false true 0 [])) := by
 rw [C, u07 _ _ rfl]; kernel_rfl
noncomputable def u36 (v0 v2 v3 : PV) : M PV := atP P X u3y [1, 1, 0, 0] (mkEnv 24 0 [(0, v0), (2, v2), (3, v3)])
theorem u54 (v0 v2 v3 : PV) : u36 v0 v2 v3 =
 M.bind (bi .lss .none (strip v0) (.int .i64 (-64))) fun t5_0 =>
 M.bind (gd (strip t5_0) false (M.pure (strip v0))) fun t7_1 =>
 M.bind (gd (strip t5_0) false (bi .gtr .none t7_1 (.int .i64 63))) fun t8_2 =>
 M.bind (pick (strip t5_0) (.bool true) t8_2) fun t9_3 =>
 condM t9_3
 (M.bind (cv (.int .u8) true (strip v0)) fun t14_4 =>
 M.bind (bi .or .none t14_4 (.int .u8 128)) fun t15_5 =>
 M.bind (bs true none [t15_5]) fun t16_6 =>
 M.bind (ap true 1 1 v3 t16_6) fun t17_7 =>
 M.bind (bi .shr .none (strip v0) (.int .u64 7)) fun t11_8 =>
 u36 t11_8 v2 t17_7)
 (M.bind (cv (.int .u8) true (strip v0)) fun t20_9 =>
 M.bind (bi .and .none t20_9 (.int .u8 127)) fun t21_10 =>
 M.bind (bs true none [t21_10]) fun t22_11 =>
 M.bind (ap true 1 1 v3 t22_11) fun t23_12 =>
 resT t23_12 (M.pure t23_12)) :=
 (u17 P X _ _ _).trans (by kernel_rfl)
theorem ugf (a0 : PV) : C u3y [a0] =
 trunc (u36 a0 (.slice false true 0 []) (.slice false true 0 [])) := by
 rw [C, u07 _ _ rfl]; kernel_rfl
theorem u88 : C u3k [] =
 trunc (M.bind (al [(.int .i64 0), (.int .i64 0), (.int .i64 0), (.int .i64 0), (.int .i64 0), (.int .i64 0), (.int .i64 0), (.int .i64 0), (.int .i64 0), (.int .i64 0), (.int .i64 0), (.int .i64 0)]) fun t0_0 =>
 M.bind (bd [(.int .i64 0), (.int .i64 0), (.int .i64 0), (.int .i64 0), (.int .i64 0), (.int .i64 0), (.int .i64 0), (.int .i64 0), (.int .i64 0), (.int .i64 0), (.int .i64 0), (.int .i64 0)] [(0, 1, (.int .i64 (-11))), (1, 1, (.int .i64 (-9))), (2, 1, (.int .i64 (-8))), (3, 1, (.int .i64 (-7))), (4, 1, (.int .i64 (-6))), (5, 1, (.int .i64 (-5))), (6, 1, (.int .i64 (-3))), (7, 1, (.int .i64 (-1))), (8, 1, (.int .i64 (-10))), (9, 1, (.int .i64 (-4))), (10, 1, (.int .i64 (-2))), (11, 1, (.int .i64 (-12)))]) fun t1_1 =>
 M.bind (st 12 true t0_0 t1_1) fun _ =>
 M.bind (ld (some 12) true t0_0) fun t0_3 => guardM (!isTup t0_3) (M.pure t0_3)) := by
 rw [C, u07 _ _ rfl]; kernel_rfl
theorem u5c (a0 : PV) : C u2u [a0] =
 trunc (M.bind (bi .eql .none (strip a0) (.int .u8 115)) fun t5_0 =>
 condM t5_0
 (M.pure (.int .i64 (-2)))
 (M.bind (bi .eql .none (strip a0) (.int .u8 114)) fun t7_1 =>
 condM t7_1
 (M.pure (.int .i64 (-4)))
 (M.bind (bi .eql .none (strip a0) (.int .u8 113)) fun t9_2 =>
 condM t9_2
 (M.pure (.int .i64 (-10)))
 (M.bind (bi .eql .none (strip a0) (.int .u8 112)) fun t11_3 =>
 condM t11_3
 (M.pure (.int .i64 (-1)))
 (M.bind (bi .eql .none (strip a0) (.int .u8 111)) fun t13_4 =>
 condM t13_4
 (M.pure (.int .i64 (-3)))
 (M.bind (bi .eql .none (strip a0) (.int .u8 110)) fun t15_5 =>
 condM t15_5
 (M.pure (.int .i64 (-5)))
 (M.bind (bi .eql .none (strip a0) (.int .u8 109)) fun t17_6 =>
 condM t17_6
 (M.pure (.int .i64 (-6)))
 (M.bind (bi .eql .none (strip a0) (.int .u8 108)) fun t19_7 =>
 condM t19_7
 (M.pure (.int .i64 (-7)))
 (M.bind (bi .eql .none (strip a0) (.int .u8 107)) fun t21_8 =>
 condM t21_8
 (M.pure (.int .i64 (-8)))
 (M.bind (bi .eql .none (strip a0) (.int .u8 106)) fun t23_9 =>
 condM t23_9
 (M.pure (.int .i64 (-9)))
 (M.bind (bi .eql .none (strip a0) (.int .u8 105)) fun t25_10 =>
 condM t25_10
 (M.pure (.int .i64 (-11)))
 (M.bind (bi .eql .none (strip a0) (.int .u8 116)) fun t27_11 =>
 condM t27_11
 (M.pure (.int .i64 (-12)))
 (M.pure (.int .i64 0)))))))))))))) := by
 rw [C, u07 _ _ rfl]; kernel_rfl
end Go.Proofs.YthnmienjiangkaaDoor.Pi.Q
namespace Go.Proofs.YthnmienjiangkaaDoor.Pi.Q
open Go Go.Proofs.YthnmienjiangkaaDoor.Pi
attribute [local congr] ite_congr
def flt (p e : Nat) : PV := .iface u0h (.agg [.int .i64 p, .int .i64 e])
def hname (c : Nat) : Int :=
  if c = 115 then -2 else if c = 114 then -4 else if c = 113 then -10 else if c = 112 then -1 else if c = 111 then -3 else if c = 110 then -5 else if c = 109 then -6 else if c = 108 then -7 else if c = 107 then -8 else if c = 106 then -9 else if c = 105 then -11 else if c = 116 then -12 else 0
theorem uh5 {H : Heap} : run (C u3k []) H = some (.ok (.agg [.int .i64 (-11), .int .i64 (-9), .int .i64 (-8), .int .i64 (-7), .int .i64 (-6), .int .i64 (-5), .int .i64 (-3), .int .i64 (-1), .int .i64 (-10), .int .i64 (-4), .int .i64 (-2), .int .i64 (-12)]) H) := by
  rw [u88]
  simp +contextual -dsimp (disch := omega) only [↓goDown, goUp, cr, simprocAttr]
theorem uq2 {len : Nat} {cs : List PV} {k : IntKind} {n : Int} {H : Heap} : run (ixA len 1 none (.agg cs) (.int k n)) H = if 0 ≤ n ∧ n < len then ldFR H (nth cs n.toNat) else none := by
  unfold run ixA fd
  by_cases h : 0 ≤ n ∧ n < len
  · have h1 : (decide (0 ≤ n) && decide (n < (len : Int))) = true := by simp [h]
    rw [if_pos h]
    simp only [h1, cond_true, Nat.mul_one, nth_is]
    cases nth cs n.toNat <;> rfl
  · have h1 : (decide (0 ≤ n) && decide (n < (len : Int))) = false := by
      rw [Bool.and_eq_false_iff]
      by_cases h0 : 0 ≤ n
      · right; simp; omega
      · left; simp; omega
    rw [if_neg h]
    simp only [h1, cond_false]
    rfl
theorem umv {c : Nat} (h : c < 105 ∨ 116 < c) : hname c = 0 := by
  unfold hname
  rw [if_neg (by omega), if_neg (by omega), if_neg (by omega), if_neg (by omega), if_neg (by omega), if_neg (by omega), if_neg (by omega), if_neg (by omega), if_neg (by omega), if_neg (by omega), if_neg (by omega), if_neg (by omega)]
end Go.Proofs.YthnmienjiangkaaDoor.Pi.Q
namespace Go.Proofs.YthnmienjiangkaaDoor.Pi.Q
open Go Go.Proofs.YthnmienjiangkaaDoor.Pi
attribute [local congr] ite_congr
structure VT where
  num : Int
  nul : Bool
  heap : Int
  deriving DecidableEq
theorem ns (p : Nat) : ((p + 1 : Nat) : Int) = (p : Int) + 1 := rfl
end Go.Proofs.YthnmienjiangkaaDoor.Pi.Q
namespace Go.Proofs.YthnmienjiangkaaDoor.Pi.Q
open Go Go.Proofs.YthnmienjiangkaaDoor.Pi
attribute [local congr] ite_congr
def accP (sz : Nat) (l : List PV) : PV := match l with | [] => .slice false true 0 [] | l => .slice true false sz l
theorem ap_acc {H : Heap} {sz b : Nat} {l : List PV} {v : PV} {o : Bool} (h : (l.length + 1) * max b 1 ≤ 140737488355328) :
    run (ap true sz b (accP sz l) (.slice o false sz [v])) H = some (.ok (accP sz (l ++ [v])) H) := by
  cases l with
  | nil =>
    unfold accP run ap tail growB
    have h2 : max b 1 ≤ 140737488355328 := by simpa using h
    simp [h2, M.pure]
  | cons x r =>
    unfold accP run ap tail growB
    have h2 : ((x :: r).length + [v].length) * max b 1 ≤ 140737488355328 := by simpa using h
    simp only [beq_self_eq_true, Bool.or_true, cond_true, cond_false, Bool.true_and, decide_eq_true h2]
    rfl
theorem u5g {sz : Nat} {l : List PV} : isTup (accP sz l) = false := by unfold accP; split <;> rfl
theorem u8f {sz n : Nat} {l : List PV} : (accP sz l).low n = true := by unfold accP; split <;> simp [u7w]
theorem uku {sz : Nat} {l : List PV} : (accP sz l).cells = [accP sz l] := by unfold accP; split <;> rfl
theorem ujx {sz : Nat} {l : List PV} : isCell (accP sz l) = true := by unfold accP; split <;> rfl
structure BK where
  ty : Int
  res : VT
  deriving DecidableEq
end Go.Proofs.YthnmienjiangkaaDoor.Pi.Q
namespace Go.Proofs.YthnmienjiangkaaDoor.Pi.Q
open Go Go.Proofs.YthnmienjiangkaaDoor.Pi
attribute [local congr] ite_congr
theorem run_ta {H : Heap} {t : TypeId} {zv v : PV} : run (ta t zv false (.iface t v)) H = some (.ok v H) := by
  unfold run ta
  simp [M.pure]
theorem run_mf {H : Heap} {f : FuncId} {a b : List PV} : run (mf f a b) H = if (a.all isVal && b.all isVal) = true then some (.ok (.fn f (a.map stripC) (b.map stripC)) H) else none := by
  unfold run mf
  cases (a.all isVal && b.all isVal) <;> rfl
theorem bi_if {a : PV} {t : TypeId} {H : Heap} : run (bi .neq .iface (.iface t a) .niliface) H = some (.ok (.bool true) H) := nrfl rfl
theorem bi_ifn {H : Heap} : run (bi .neq .iface .niliface .niliface) H = some (.ok (.bool false) H) := nrfl rfl
theorem cutL {H : Heap} {L : List Box} (k : Nat) : hcut (hadd H L) (H.length + k) = hadd H (L.take k) := by unfold hcut hadd; rw [List.take_append, List.take_of_length_le (by omega), Nat.add_sub_cancel_left]
theorem um7 {n k : Nat} : (n + (k + 1) == n) = false := by simp
end Go.Proofs.YthnmienjiangkaaDoor.Pi.Q
namespace Go.Proofs.YthnmienjiangkaaDoor.Pi.Q
open Go Go.Proofs.YthnmienjiangkaaDoor.Pi
attribute [local congr] ite_congr
theorem upy {H : Heap} {c : Nat} : run (C u2u [.int .u8 c]) H = some (.ok (.int .i64 (hname c)) H) := by
  rw [u5c]
  by_cases h : c < 105 ∨ 116 < c
  · rw [umv h]
    have e115 : ((c : Int) = 115) = False := eq_false (by omega)
    have e114 : ((c : Int) = 114) = False := eq_false (by omega)
    have e113 : ((c : Int) = 113) = False := eq_false (by omega)
    have e112 : ((c : Int) = 112) = False := eq_false (by omega)
    have e111 : ((c : Int) = 111) = False := eq_false (by omega)
    have e110 : ((c : Int) = 110) = False := eq_false (by omega)
    have e109 : ((c : Int) = 109) = False := eq_false (by omega)
    have e108 : ((c : Int) = 108) = False := eq_false (by omega)
    have e107 : ((c : Int) = 107) = False := eq_false (by omega)
    have e106 : ((c : Int) = 106) = False := eq_false (by omega)
    have e105 : ((c : Int) = 105) = False := eq_false (by omega)
    have e116 : ((c : Int) = 116) = False := eq_false (by omega)
    simp (dsimp := false) (disch := omega) only [↓goDown, goUp, cr, simprocAttr, e115, e114, e113, e112, e111, e110, e109, e108, e107, e106, e105, e116]
  · have h : c = 105 ∨ c = 106 ∨ c = 107 ∨ c = 108 ∨ c = 109 ∨ c = 110 ∨ c = 111 ∨ c = 112 ∨ c = 113 ∨ c = 114 ∨ c = 115 ∨ c = 116 := by omega
    rcases h with rfl | rfl | rfl | rfl | rfl | rfl | rfl | rfl | rfl | rfl | rfl | rfl <;>
      simp (dsimp := false) (disch := omega) only [↓goDown, goUp, cr, simprocAttr, Int.cast_ofNat_Int] <;> rfl
end Go.Proofs.YthnmienjiangkaaDoor.Pi.Q
namespace Go.Proofs.YthnmienjiangkaaDoor.Pi.Q
open Go Go.Proofs.YthnmienjiangkaaDoor.Pi
attribute [local congr] ite_congr
theorem upe {H : Heap} {v : PV} : run (ap true 1 1 (.slice false true 0 []) (.slice true false 1 [v])) H = some (.ok (.slice true false 1 [v]) H) := nrfl rfl
theorem uph {H : Heap} {k : IntKind} {n : Int} : run (bs true none [.int k n]) H = some (.ok (.slice true false 1 [.int k n]) H) := nrfl rfl
theorem unr {H : Heap} {k : IntKind} {n : Int} : bsR true none [.int k n] H = some (.ok (.slice true false 1 [.int k n]) H) := by simp [bsR, u1x, PV.flat]
theorem cv_127 {H : Heap} {o z p : Bool} {s : Nat} : run (cv .bytesToStr p (.slice o z s [.int .u8 127])) H = some (.ok (.str ⟨#[127]⟩) H) := nrfl rfl
theorem str_eq {H : Heap} {s : ByteArray} : run (bi .eql .none (.str s) (.str s)) H = some (.ok (.bool true) H) := by
  show some (Out.ok (PV.bool (s.toList == s.toList)) H) = _
  rw [beq_self_eq_true]
theorem une {H : Heap} : run (C u3f []) H = some (.ok (.bool true) H) := by
  rw [u6d]
  simp +contextual -dsimp (disch := omega) only [↓goDown, goUp, cr, simprocAttr, u7m, u6b, u71, u5v, u3z, u5h, u5i, un_not, run_mf, bi_ifn, upe, uph, unr, cv_127, str_eq, cutL]
end Go.Proofs.YthnmienjiangkaaDoor.Pi.Q
namespace Go.Proofs.YthnmienjiangkaaDoor.Pi.Q
open Go Go.Proofs.YthnmienjiangkaaDoor.Pi
attribute [local congr] ite_congr
structure FT where
  ty : VT
  mu : Bool
  deriving DecidableEq
end Go.Proofs.YthnmienjiangkaaDoor.Pi.Q
namespace Go.Proofs.YthnmienjiangkaaDoor.Pi.Q
open Go Go.Proofs.YthnmienjiangkaaDoor.Pi
attribute [local congr] ite_congr
def shutP (sz : Nat) (l : List PV) : PV := match l with | [] => .slice false true 0 [] | l => .slice false false sz l
theorem strip_acc {sz : Nat} {l : List PV} : strip (accP sz l) = shutP sz l := by cases l <;> rfl
theorem stripC_acc {sz : Nat} {l : List PV} : stripC (accP sz l) = shutP sz l := by cases l <;> rfl
structure CT where
  kind : Int
  ps : List VT
  rs : List VT
  fs : List FT
  deriving DecidableEq
structure ST where
  fin : Bool
  sup : List Int
  comp : CT
  deriving DecidableEq
end Go.Proofs.YthnmienjiangkaaDoor.Pi.Q
namespace Go.Proofs.YthnmienjiangkaaDoor.Pi.Q
open Go Go.Proofs.YthnmienjiangkaaDoor.Pi
attribute [local congr] ite_congr
structure RT where
  types : List ST
  exp : Bool
  deriving DecidableEq
end Go.Proofs.YthnmienjiangkaaDoor.Pi.Q
namespace Go.Proofs.YthnmienjiangkaaDoor.Pi
open Go.ChangeShapes Go.WideShapes
def litPV : Lit → PV
  | .int k n => .int k n
  | .bool b => .bool b
  | .string s => .str ⟨s.toArray⟩
  | _ => .undef
def wrapE (P : Program) (e : TypeId) (cs : List PV) : PV :=
  match tagg P e with
  | some _ => .agg cs
  | none => cs.headD .undef
mutual
def toldD {H : Type} (P : Program) : TypeId → DataW H → List PV
  | t, .lit l => [litPV l]
  | t, .nil => match P.underlying t with
    | some (.slice e) => [.slice false true 0 []]
    | _ => [.nil]
  | t, .slice elems _ => match P.underlying t with
    | some (.slice e) => [.slice false false (P.cellsOf e) (toldE P e elems)]
    | _ => []
  | t, .agg parts => match P.underlying t with
    | some (.struct fs) => toldF P fs.toList parts
    | _ => []
  | _, _ => []
def toldE {H : Type} (P : Program) (e : TypeId) : List (DataW H) → List PV
  | [] => []
  | d :: r => wrapE P e (toldD P e d) :: toldE P e r
def toldF {H : Type} (P : Program) : List Field → List (DataW H) → List PV
  | f :: fs, d :: r => toldD P f.type d ++ toldF P fs r
  | _, _ => []
end
def laidF (P : Program) : Nat → List Field → Option Nat
  | o, [] => some o
  | o, f :: r => bif f.offset == o then laidF P (o + P.cellsOf f.type) r else none
def plainT (P : Program) (T : List TypeId) (t : TypeId) : Bool :=
  match P.underlying t with
  | some .bool | some (.int _) | some .string => P.cellsOf t == 1 && (tagg P t).isNone
  | some (.slice e) => T.contains e && (decide (0 < P.cellsOf e) && (P.cellsOf t == 1 && (tagg P t).isNone))
  | some (.struct fs) => fs.toList.all (fun f => T.contains f.type) && (laidF P 0 fs.toList == some (P.cellsOf t) && (tagg P t).isSome)
  | _ => false
theorem uk7 {P : Program} {T : List TypeId} {e : TypeId} (he : plainT P T e = true) {cs : List PV} (hl : cs.length = P.cellsOf e) (hc : ∀ (j : Nat) (c : PV), cs[j]? = some c → isCell c = true) : (wrapE P e cs).cells = cs := by
  have one : P.cellsOf e = 1 → (tagg P e).isNone = true → (wrapE P e cs).cells = cs := fun h1 h2 => by
    obtain ⟨c, rfl⟩ : ∃ c, cs = [c] := by
      cases cs with
      | nil => simp at hl; omega
      | cons c r =>
        cases r with
        | nil => exact ⟨c, rfl⟩
        | cons d r => simp at hl; omega
    have hcell := hc 0 c rfl
    unfold wrapE
    cases ht : tagg P e with
    | some _ => rw [ht] at h2; cases h2
    | none =>
      simp only [List.headD_cons]
      cases c <;> first | rfl | cases hcell
  unfold plainT at he
  split at he
  · simp only [Bool.and_eq_true, beq_iff_eq] at he; exact one he.1 he.2
  · simp only [Bool.and_eq_true, beq_iff_eq] at he; exact one he.1 he.2
  · simp only [Bool.and_eq_true, beq_iff_eq] at he; exact one he.1 he.2
  · simp only [Bool.and_eq_true, beq_iff_eq] at he; exact one he.2.2.1 he.2.2.2
  · simp only [Bool.and_eq_true, beq_iff_eq] at he
    unfold wrapE
    cases ht : tagg P e with
    | some _ => rfl
    | none => rw [ht] at he; cases he.2.2
  · cases he
def ToldOk (W : World) (cs : List Value) (ps : List PV) : Prop :=
  ps.length = cs.length ∧ ∀ (j : Nat) (c : PV), ps[j]? = some c → isCell c = true ∧ ∀ v, cs[j]? = some v → RepF (imOf W) c v
theorem ToldOk.one {W : World} {c : PV} {v : Value} (h1 : isCell c = true) (h2 : RepF (imOf W) c v) : ToldOk W [v] [c] :=
  ⟨rfl, fun j d hd => by
    cases j with
    | zero => simp at hd; subst hd; exact ⟨h1, fun u hu => by simp at hu; subst hu; exact h2⟩
    | succ j => simp at hd⟩
variable {H : Type} {enc : TypeId × Value → H} {P : Program} {W : World} {base : Nat} {spare : Nat → Bool} {held : Bool} {T : List TypeId}
theorem ubo {W : World} {a : Addr} {n : Nat} {l : List Value} (hn : 0 < n) (h : W.cells? base a n = some l) : a.spot = none := by
  unfold World.cells? at h
  split at h
  · have h0 := mapM_some_get h 0 0 (by simp [hn])
    have : a.add 0 = a := by simp [Addr.add]
    rw [this] at h0
    unfold World.cell? at h0
    cases hs : a.spot with
    | none => rfl
    | some x =>
      rw [hs] at h0
      have hl := mapM_some_length h
      have hlt : 0 < l.length := by rw [hl]; simpa using hn
      rw [List.getElem?_eq_getElem hlt] at h0
      split at h0 <;> simp at h0
  · cases h
theorem um9 {W : World} {a : Addr} {n : Nat} {l : List Value} (h : W.cells? base a n = some l) (hs : a.spot = none) : l.length = n ∧ ∀ (j : Nat) (v : Value), l[j]? = some v → W.cell? ⟨a.block, a.off + j, none⟩ = some v := by
  unfold World.cells? at h
  split at h
  · refine ⟨by simpa using mapM_some_length h, fun j v hv => ?_⟩
    have hj : j < n := by
      have := (List.getElem?_eq_some_iff.mp hv).1
      have h2 := mapM_some_length h
      simp at h2
      omega
    have h0 := mapM_some_get h j j (by simp [hj])
    rw [hv] at h0
    have : a.add j = ⟨a.block, a.off + j, none⟩ := by
      obtain ⟨b, o, sp⟩ := a
      simp only at hs
      subst hs
      unfold Addr.add
      split <;> simp_all
    rw [this] at h0
    exact h0
  · cases h
theorem ueg {P : Program} {e : TypeId} : ∀ (l : List (DataW H)) (i : Nat), (toldE P e l)[i]? = l[i]?.map fun d => wrapE P e (toldD P e d)
  | [], i => by simp [toldE]
  | d :: r, 0 => by simp [toldE]
  | d :: r, i + 1 => by simpa [toldE] using ueg r i
theorem u90 {P : Program} {e : TypeId} : ∀ (l : List (DataW H)), (toldE P e l).length = l.length
  | [] => rfl
  | d :: r => by simp [toldE, u90 r]
theorem ToldOk.append {W : World} {cs ds : List Value} {ps qs : List PV} (h : ToldOk W cs ps) (k : ToldOk W ds qs) : ToldOk W (cs ++ ds) (ps ++ qs) := by
  refine ⟨by simp [h.1, k.1], fun j c hc => ?_⟩
  by_cases hj : j < ps.length
  · rw [List.getElem?_append_left hj] at hc
    obtain ⟨h1, h2⟩ := h.2 j c hc
    refine ⟨h1, fun v hv => h2 v ?_⟩
    rwa [List.getElem?_append_left (by rw [← h.1]; exact hj)] at hv
  · rw [List.getElem?_append_right (by omega)] at hc
    obtain ⟨h1, h2⟩ := k.2 _ c hc
    refine ⟨h1, fun v hv => h2 v ?_⟩
    rwa [List.getElem?_append_right (by rw [← h.1]; omega), ← h.1] at hv
theorem uai (n : Nat) (ok : ∀ (t : TypeId) (cs : List Value) (x : DataW H × List MemPlace), T.contains t = true → DataW.trod enc P W base spare held n t cs = some x → cs.length = P.cellsOf t ∧ ToldOk W cs (toldD P t x.1)) (cs : List Value) :
    ∀ (fs : List Field) (o : Nat) (xs : List (DataW H × List MemPlace)), (∀ f ∈ fs, T.contains f.type = true) → laidF P o fs = some cs.length → xs.length = fs.length →
      (∀ (i : Nat) (f : Field), fs[i]? = some f → DataW.trod enc P W base spare held n f.type ((cs.drop f.offset).take (P.cellsOf f.type)) = xs[i]?) → o ≤ cs.length ∧ ToldOk W (cs.drop o) (toldF P fs (xs.map (·.1)))
  | [], o, xs, hT, hl, hx, h => by
    simp only [laidF, Option.some.injEq] at hl
    subst hl
    obtain rfl : xs = [] := List.eq_nil_of_length_eq_zero (by simpa using hx)
    exact ⟨Nat.le_refl _, by simp [toldF], by simp [toldF]⟩
  | f :: fs, o, xs, hT, hl, hx, h => by
    unfold laidF at hl
    cases ho : (f.offset == o) with
    | false => rw [ho] at hl; cases hl
    | true =>
      rw [ho] at hl
      simp only [cond_true] at hl
      obtain rfl : f.offset = o := by simpa using ho
      cases xs with
      | nil => simp at hx
      | cons y ys =>
        have h0 := h 0 f rfl
        simp only [List.getElem?_cons_zero] at h0
        obtain ⟨l1, l2⟩ := ok f.type _ y (hT f (by simp)) h0
        obtain ⟨k1, k2⟩ := uai n ok cs fs _ ys (fun g hg => hT g (by simp [hg])) hl (by simpa using hx) (fun i g hg => by
          have := h (i + 1) g (by simpa using hg)
          simpa using this)
        refine ⟨by omega, ?_⟩
        have e1 : cs.drop f.offset = (cs.drop f.offset).take (P.cellsOf f.type) ++ cs.drop (f.offset + P.cellsOf f.type) := by
          rw [← List.drop_drop, List.take_append_drop]
        rw [e1]
        simp only [List.map_cons, toldF]
        exact l2.append k2
theorem told_ok (hT : T.all (plainT P T) = true) (hsp : ∀ b, spare b = true) : ∀ (n : Nat) (t : TypeId) (cs : List Value) (x : DataW H × List MemPlace), T.contains t = true → DataW.trod enc P W base spare held n t cs = some x → cs.length = P.cellsOf t ∧ ToldOk W cs (toldD P t x.1) := by
  intro n
  induction n with
  | zero => intro t cs x _ h; simp [DataW.trod] at h
  | succ n ih =>
  intro t cs x ht h
  have hp : plainT P T t = true := List.all_eq_true.mp hT t (by simpa using ht)
  have hp0 := hp
  unfold plainT at hp
  split at hp
  · rename_i hu
    simp only [Bool.and_eq_true, beq_iff_eq] at hp
    obtain ⟨b, rfl, rfl⟩ := DataW.trod_bool hu h
    refine ⟨by simp [hp.1], ?_⟩
    simp only [toldD, litPV]
    exact .one rfl (.bool b)
  · rename_i k hu
    simp only [Bool.and_eq_true, beq_iff_eq] at hp
    obtain ⟨m, rfl, rfl, _⟩ := DataW.trod_int hu h
    refine ⟨by simp [hp.1], ?_⟩
    simp only [toldD, litPV]
    exact .one rfl (.int k m)
  · rename_i hu
    simp only [Bool.and_eq_true, beq_iff_eq] at hp
    obtain ⟨s, rfl, rfl, _⟩ := DataW.trod_string hu h
    refine ⟨by simp [hp.1], ?_⟩
    simp only [toldD, litPV]
    have e : (⟨s.data.toList.toArray⟩ : ByteArray) = s := by rw [Array.toArray_toList]
    rw [e]
    exact .one rfl (.str s)
  · rename_i e hu
    simp only [Bool.and_eq_true, beq_iff_eq, decide_eq_true_eq] at hp
    obtain ⟨he, hz, h1, _⟩ := hp
    have hpe : plainT P T e = true := List.all_eq_true.mp hT e (by simpa using he)
    rcases DataW.trod_slice hu h with ⟨rfl, rfl⟩ | ⟨a, len, cap, elems, rest, m, hm, rfl, rfl, hb, hlc, hcm, hlen, hel, hre, hno⟩
    · refine ⟨by simp [h1], ?_⟩
      simp only [toldD, hu]
      exact .one rfl (.snil 0)
    · obtain rfl : m = n := by omega
      refine ⟨by simp [h1], ?_⟩
      simp only [toldD, hu]
      have each : ∀ (i : Nat) (y : DataW H × List MemPlace), elems[i]? = some y → ∃ l : List Value, W.cells? base (a.add (i * P.cellsOf e)) (P.cellsOf e) = some l ∧ l.length = P.cellsOf e ∧ ToldOk W l (toldD P e y.1) := by
        intro i y hy
        have hi : i < len := by
          have := (List.getElem?_eq_some_iff.mp hy).1
          omega
        have := hel i hi
        rw [hy, Option.bind_eq_some_iff] at this
        obtain ⟨l, hl, hd⟩ := this
        obtain ⟨q1, q2⟩ := ih e l y he hd
        exact ⟨l, hl, q1, q2⟩
      have spot : a.spot = none ∨ cap = 0 := by
        by_cases hc : cap = 0
        · exact .inr hc
        · left
          have add0 : a.add (0 * P.cellsOf e) = a := by simp [Addr.add]
          by_cases hl0 : len = 0
          · obtain ⟨r1, r2⟩ := hre (hsp _)
            have := r2 0 (by omega)
            have hlt : 0 < rest.length := by omega
            rw [List.getElem?_eq_getElem hlt, Option.bind_eq_some_iff] at this
            obtain ⟨l, hl, _⟩ := this
            rw [hl0] at hl
            rw [show (0 + 0) * P.cellsOf e = 0 * P.cellsOf e by simp, add0] at hl
            exact ubo hz hl
          · have hlt : 0 < elems.length := by omega
            obtain ⟨l, hl, _⟩ := each 0 _ (List.getElem?_eq_getElem hlt)
            rw [add0] at hl
            exact ubo hz hl
      obtain ⟨g, o, sp⟩ := a
      have hcap : cap = 0 → elems = [] := fun h => List.eq_nil_of_length_eq_zero (by omega)
      have hL : (toldE P e (elems.map (·.1))).length = len := by rw [u90, List.length_map, hlen]
      have hget : ∀ (i : Nat) (x : PV), (toldE P e (elems.map (·.1)))[i]? = some x → sp = none ∧ ∃ l : List Value, (∀ (j : Nat) (v : Value), l[j]? = some v → imOf W g (o + i * P.cellsOf e + j) = some v) ∧ l.length = P.cellsOf e ∧ x.cells.length = P.cellsOf e ∧ ∀ (j : Nat) (c : PV), x.cells[j]? = some c → ∀ v, l[j]? = some v → RepF (imOf W) c v := by
        intro i x hx
        rw [ueg, List.getElem?_map] at hx
        cases hy : elems[i]? with
        | none => rw [hy] at hx; simp at hx
        | some y =>
          rw [hy] at hx
          simp only [Option.map_some, Option.some.injEq] at hx
          have hsn : sp = none := by
            rcases spot with h | h
            · exact h
            · rw [hcap h] at hy; simp at hy
          subst hsn
          obtain ⟨l, hl, q1, q2⟩ := each i y hy
          have hadd : (⟨g, o, none⟩ : Addr).add (i * P.cellsOf e) = ⟨g, o + i * P.cellsOf e, none⟩ := by unfold Addr.add; split <;> simp_all
          rw [hadd] at hl
          obtain ⟨_, q3⟩ := um9 hl rfl
          have hw := uk7 hpe (cs := toldD P e y.1) (by rw [q2.1, q1]) (fun j c hc => (q2.2 j c hc).1)
          rw [hx] at hw
          refine ⟨rfl, l, fun j v hv => q3 j v hv, q1, by rw [hw, q2.1, q1], fun j c hc v hv => ?_⟩
          rw [hw] at hc
          exact (q2.2 j c hc).2 v hv
      have hrep := RepF.slice (im := imOf W) (g := g) (o := o) (cap := cap) (sz := P.cellsOf e) (sp := sp) (xs := toldE P e (elems.map (·.1))) (fun i j => (imOf W g (o + i * P.cellsOf e + j)).getD .nilIface) spot (by omega)
        (fun i x hx => (hget i x hx).2.choose_spec.2.2.1)
        (fun i x j c hx hc => by
          obtain ⟨_, l, l1, l2, l3, l4⟩ := hget i x hx
          have hj : j < l.length := by
            have := (List.getElem?_eq_some_iff.mp hc).1
            omega
          rw [l1 j _ (List.getElem?_eq_getElem hj)]
          rfl)
        (fun i x j c hx hc => by
          obtain ⟨_, l, l1, l2, l3, l4⟩ := hget i x hx
          have hj : j < l.length := by
            have := (List.getElem?_eq_some_iff.mp hc).1
            omega
          rw [l1 j _ (List.getElem?_eq_getElem hj)]
          exact l4 j c hc _ (List.getElem?_eq_getElem hj))
      rw [hL] at hrep
      exact .one rfl hrep
  · rename_i fs hu
    simp only [Bool.and_eq_true, beq_iff_eq, List.all_eq_true] at hp
    obtain ⟨hTf, hlaid, _⟩ := hp
    obtain ⟨xs, m, hm, rfl, hcl, hxl, hx⟩ := DataW.trod_struct hu h
    obtain rfl : m = n := by omega
    refine ⟨hcl, ?_⟩
    simp only [toldD, hu]
    have := uai (T := T) m (fun t cs x ht hk => ih t cs x ht hk) cs fs.toList 0 xs (fun f hf => hTf f hf) (by rw [hcl]; exact hlaid) (by simpa using hxl) (fun i f hf => hx i f (by simpa using hf))
    simpa using this.2
  · cases hp
end Go.Proofs.YthnmienjiangkaaDoor.Pi
namespace Go.Proofs.YthnmienjiangkaaDoor.Pi
def LZ (z : Bool) (sz : Nat) (l : List PV) : PV := match l with | [] => .slice false z (if z then 0 else sz) [] | l => .slice false false sz l
structure GL (α : Type) where
  z : Bool
  l : List α
  deriving DecidableEq
section
variable {z : Bool} {sz : Nat} {l : List PV} {H : Heap}
theorem u4c : isTup (LZ z sz l) = false := by cases l <;> rfl
theorem u3l : isCell (LZ z sz l) = true := by cases l <;> rfl
theorem u4e : (LZ z sz l).cells = [LZ z sz l] := by cases l <;> rfl
theorem low_Z {n : Nat} : (LZ z sz l).low n = true := by cases l <;> simp [LZ, u7w]
theorem u40 : strip (LZ z sz l) = LZ z sz l := by cases l <;> rfl
theorem u3j : stripC (LZ z sz l) = LZ z sz l := by cases l <;> rfl
end
theorem unb {sz : Nat} {l : List PV} : Q.shutP sz l = LZ true sz l := by cases l <;> rfl
end Go.Proofs.YthnmienjiangkaaDoor.Pi
namespace Go.Proofs.YthnmienjiangkaaDoor.Pi
open Go.ChangeShapes Go.WideShapes
mutual
def bulk {H : Type} : DataW H → Nat
  | .lit (.string bytes) => bytes.length + 1
  | .lit _ => 1
  | .nil => 1
  | .ptr d => bulk d + 1
  | .slice elems spare => bulkL elems + bulkL spare + 1
  | .agg parts => bulkL parts + 1
  | _ => 1
def bulkL {H : Type} : List (DataW H) → Nat
  | [] => 0
  | d :: r => bulk d + bulkL r
end
section
variable {H : Type} {enc : TypeId × Value → H} {P : Program} {W : World} {base : Nat} {spare : Nat → Bool} {held : Bool} {A B : Type} {n : Nat} {t e : TypeId}
structure DecArgs (H : Type) where
  enc : TypeId × Value → H
  P : Program
  W : World
  base : Nat
  spare : Nat → Bool
  held : Bool
variable (G : DecArgs H)
def Dec (n : Nat) (t : TypeId) (cells : A → List PV) (ok : A → Prop) (ms : A → Nat) : Prop :=
  ∀ cs x, DataW.trod G.enc G.P G.W G.base G.spare G.held n t cs = some x → ∃ a, toldD G.P t x.1 = cells a ∧ ok a ∧ ms a ≤ bulk x.1
def DecF (n : Nat) (fs : List Field) (cells : A → List PV) (ok : A → Prop) (ms : A → Nat) : Prop :=
  ∀ (xs : List (DataW H × List MemPlace)), xs.length = fs.length → (∀ (i : Nat) (f : Field), fs[i]? = some f → ∃ cs, DataW.trod G.enc G.P G.W G.base G.spare G.held n f.type cs = xs[i]?) →
    ∃ a, toldF G.P fs (xs.map (·.1)) = cells a ∧ ok a ∧ ms a ≤ bulkL (xs.map (·.1))
variable {G}
theorem dec_int {k : IntKind} (hu : G.P.underlying t = some (.int k)) : Dec G n t (fun m : Int => [.int k m]) (fun m => (Lit.int k m).wf = true) (fun _ => 1) := by
  intro cs x h
  obtain ⟨m, rfl, rfl, hw⟩ := DataW.trod_int hu h
  exact ⟨m, by simp [toldD, litPV], hw, by simp [bulk]⟩
theorem dec_bool (hu : G.P.underlying t = some .bool) : Dec G n t (fun b : Bool => [.bool b]) (fun _ => True) (fun _ => 1) := by
  intro cs x h
  obtain ⟨b, rfl, rfl⟩ := DataW.trod_bool hu h
  exact ⟨b, by simp [toldD, litPV], trivial, by simp [bulk]⟩
theorem dec_str (hu : G.P.underlying t = some .string) : Dec G n t (fun s : ByteArray => [.str s]) (fun s => s.size ≤ maxLen) (fun s => s.size + 1) := by
  intro cs x h
  obtain ⟨s, rfl, rfl, hs⟩ := DataW.trod_string hu h
  refine ⟨s, ?_, hs, ?_⟩
  · simp only [toldD, litPV]
  · simp only [bulk]
    exact Nat.le_of_eq (by simp)
theorem decF_nil : DecF G n [] (fun _ : Unit => []) (fun _ => True) (fun _ => 0) := by
  intro xs hl _
  exact ⟨(), by simp [toldF], trivial, Nat.zero_le _⟩
theorem decF_cons {f : Field} {fs : List Field} {cA : A → List PV} {okA : A → Prop} {mA : A → Nat} {cB : B → List PV} {okB : B → Prop} {mB : B → Nat} (ha : Dec G n f.type cA okA mA) (hb : DecF G n fs cB okB mB) :
    DecF G n (f :: fs) (fun p : A × B => cA p.1 ++ cB p.2) (fun p => okA p.1 ∧ okB p.2) (fun p => mA p.1 + mB p.2) := by
  intro xs hl h
  cases xs with
  | nil => simp at hl
  | cons y ys =>
    obtain ⟨cs, h0⟩ := h 0 f rfl
    simp only [List.getElem?_cons_zero] at h0
    obtain ⟨a, a1, a2, a3⟩ := ha _ _ h0
    obtain ⟨b, b1, b2, b3⟩ := hb ys (by simpa using hl) (fun i g hg => by simpa using h (i + 1) g (by simpa using hg))
    exact ⟨(a, b), by simp only [List.map_cons, toldF, a1, b1], ⟨a2, b2⟩, by simp only [List.map_cons, bulkL]; omega⟩
theorem dec_struct {fs : Array Field} {l : List Field} (hu : G.P.underlying t = some (.struct fs)) (hl : fs.toList = l) {cells : A → List PV} {ok : A → Prop} {ms : A → Nat} (h : ∀ m, n = m + 1 → DecF G m l cells ok ms) : Dec G n t cells ok (fun a => ms a + 1) := by
  intro cs x hx
  obtain ⟨xs, m, hm, rfl, hcl, hxl, hxi⟩ := DataW.trod_struct hu hx
  subst hl
  obtain ⟨a, a1, a2, a3⟩ := h m hm xs (by simpa using hxl) (fun i f hf => ⟨_, hxi i f (by simpa using hf)⟩)
  exact ⟨a, by simp only [toldD, hu, a1], a2, by simp only [bulk]; omega⟩
theorem Dec.map {cells : A → List PV} {ok : A → Prop} {ms : A → Nat} (h : Dec G n t cells ok ms) (f : A → B) {cB : B → List PV} {okB : B → Prop} {mB : B → Nat} (hc : ∀ a, cells a = cB (f a)) (ho : ∀ a, ok a → okB (f a)) (hm : ∀ a, mB (f a) ≤ ms a) : Dec G n t cB okB mB := by
  intro cs x hx
  obtain ⟨a, a1, a2, a3⟩ := h cs x hx
  exact ⟨f a, by rw [a1, hc], ho a a2, Nat.le_trans (hm a) a3⟩
end
end Go.Proofs.YthnmienjiangkaaDoor.Pi
namespace Go.Proofs.YthnmienjiangkaaDoor.Pi
open Go.ChangeShapes Go.WideShapes
theorem rep_agg {P : Program} {W : World} {base : Nat} {t : TypeId} {fs : Array Field} {v : Value} {ps : List PV} (hu : P.underlying t = some (.struct fs)) (hok : Value.okWide P W .any base t v) (ht : ToldOk W v.cells.toList ps) : Rep [] (imOf W) (.agg ps) v := by
  unfold Value.okWide at hok
  rw [hu] at hok
  obtain ⟨cs, rfl, _, _⟩ := hok
  obtain ⟨h1, h2⟩ := ht
  refine .agg (by simpa [Value.cells] using h1.symm) (fun j c hj => (h2 j c hj).1) fun j c v hc hv => .flat ((h2 j c hc).2 v (by simpa [Value.cells] using hv))
theorem args_nil {im : Nat → Nat → Option Value} : ArgsOk (gOf im) [] #[] := ⟨rfl, fun j p v hp => by simp at hp⟩
theorem args_cons {im : Nat → Nat → Option Value} {p : PV} {v : Value} {ps : List PV} {vs : List Value} (h : Rep [] im p v) (hs : strip p = p) (hr : ArgsOk (gOf im) ps vs.toArray) : ArgsOk (gOf im) (p :: ps) (v :: vs).toArray := by
  refine ⟨by have := hr.size; simp at this ⊢; exact this, fun j q u hq hu => ?_⟩
  cases j with
  | zero =>
    simp at hq hu
    subst hq; subst hu
    exact ⟨.one (.pure h), hs⟩
  | succ j =>
    exact hr.rep j q u (by simpa using hq) (by simpa using hu)
end Go.Proofs.YthnmienjiangkaaDoor.Pi
namespace Go.Proofs.YthnmienjiangkaaDoor.Pi
open Go.ChangeShapes Go.WideShapes
structure ASl where
  z : Bool
  sz : Nat
  xs : List PV
variable {H : Type} {G : DecArgs H} {n : Nat} {t e : TypeId}
end Go.Proofs.YthnmienjiangkaaDoor.Pi
namespace Go.Proofs.YthnmienjiangkaaDoor.Pi.Q
open Go Go.Proofs.YthnmienjiangkaaDoor.Pi
def cs_V (v : VT) : List PV := [.int .i64 v.num, .bool v.nul, .int .i64 v.heap]
def ok_V (v : VT) : Prop := (Lit.int .i64 v.num).wf = true ∧ True ∧ (Lit.int .i64 v.heap).wf = true ∧ True
def ms_V (v : VT) : Nat := 1 + (1 + (1 + (0))) + 1
structure CG where
  kind : Int
  ps : GL (VT)
  rs : GL (VT)
  fs : GL (FT)
  deriving DecidableEq
structure SG where
  fin : Bool
  sup : GL (Int)
  comp : CG
  deriving DecidableEq
structure RG where
  types : GL (SG)
  exp : Bool
  deriving DecidableEq
structure LT where
  wide : Bool
  min : Int
  max : Int
  has : Bool
  deriving DecidableEq
def cs_LT (v : LT) : List PV := [.bool v.wide, .int .u64 v.min, .int .u64 v.max, .bool v.has]
def ok_LT (v : LT) : Prop := True ∧ (Lit.int .u64 v.min).wf = true ∧ (Lit.int .u64 v.max).wf = true ∧ True ∧ True
def ms_LT (v : LT) : Nat := 1 + (1 + (1 + (1 + (0)))) + 1
def CG.plain (v : CG) : CT := ⟨v.kind, v.ps.l, v.rs.l, v.fs.l⟩
def SG.plain (v : SG) : ST := ⟨v.fin, v.sup.l, v.comp.plain⟩
def RG.plain (v : RG) : RT := ⟨v.types.l.map SG.plain, v.exp⟩
def CT.gl (v : CT) : CG := ⟨v.kind, ⟨true, v.ps⟩, ⟨true, v.rs⟩, ⟨true, v.fs⟩⟩
def ST.gl (v : ST) : SG := ⟨v.fin, ⟨true, v.sup⟩, v.comp.gl⟩
def RT.gl (v : RT) : RG := ⟨⟨true, v.types.map ST.gl⟩, v.exp⟩
end Go.Proofs.YthnmienjiangkaaDoor.Pi.Q
namespace Go.Proofs.YthnmienjiangkaaDoor.Pi.Q
open Go Go.Proofs.YthnmienjiangkaaDoor.Pi
structure TB where
  elem : VT
  lim : LT
  deriving DecidableEq
def cs_TB (v : TB) : List PV := [.int .i64 v.elem.num, .bool v.elem.nul, .int .i64 v.elem.heap, .bool v.lim.wide, .int .u64 v.lim.min, .int .u64 v.lim.max, .bool v.lim.has]
def ok_TB (v : TB) : Prop := ok_V v.elem ∧ ok_LT v.lim ∧ True
def ms_TB (v : TB) : Nat := ms_V v.elem + (ms_LT v.lim + (0)) + 1
structure GO where
  ty : VT
  mu : Bool
  deriving DecidableEq
def cs_GO (v : GO) : List PV := [.int .i64 v.ty.num, .bool v.ty.nul, .int .i64 v.ty.heap, .bool v.mu]
def ok_GO (v : GO) : Prop := ok_V v.ty ∧ True ∧ True
def ms_GO (v : GO) : Nat := ms_V v.ty + (1 + (0)) + 1
structure XT where
  kind : Int
  ty : Int
  tab : TB
  mem : LT
  glo : GO
  deriving DecidableEq
def cs_XT (v : XT) : List PV := [.int .i64 v.kind, .int .i64 v.ty, .int .i64 v.tab.elem.num, .bool v.tab.elem.nul, .int .i64 v.tab.elem.heap, .bool v.tab.lim.wide, .int .u64 v.tab.lim.min, .int .u64 v.tab.lim.max, .bool v.tab.lim.has, .bool v.mem.wide, .int .u64 v.mem.min, .int .u64 v.mem.max, .bool v.mem.has, .int .i64 v.glo.ty.num, .bool v.glo.ty.nul, .int .i64 v.glo.ty.heap, .bool v.glo.mu]
def ok_XT (v : XT) : Prop := (Lit.int .i64 v.kind).wf = true ∧ (Lit.int .i64 v.ty).wf = true ∧ ok_TB v.tab ∧ ok_LT v.mem ∧ ok_GO v.glo ∧ True
def ms_XT (v : XT) : Nat := 1 + (1 + (ms_TB v.tab + (ms_LT v.mem + (ms_GO v.glo + (0))))) + 1
structure IM where
  mod : ByteArray
  nm : ByteArray
  ext : XT
  deriving DecidableEq
def cs_IM (v : IM) : List PV := [.str v.mod, .str v.nm, .int .i64 v.ext.kind, .int .i64 v.ext.ty, .int .i64 v.ext.tab.elem.num, .bool v.ext.tab.elem.nul, .int .i64 v.ext.tab.elem.heap, .bool v.ext.tab.lim.wide, .int .u64 v.ext.tab.lim.min, .int .u64 v.ext.tab.lim.max, .bool v.ext.tab.lim.has, .bool v.ext.mem.wide, .int .u64 v.ext.mem.min, .int .u64 v.ext.mem.max, .bool v.ext.mem.has, .int .i64 v.ext.glo.ty.num, .bool v.ext.glo.ty.nul, .int .i64 v.ext.glo.ty.heap, .bool v.ext.glo.mu]
def ok_IM (v : IM) : Prop := v.mod.size ≤ maxLen ∧ v.nm.size ≤ maxLen ∧ ok_XT v.ext ∧ True
def ms_IM (v : IM) : Nat := (v.mod.size + 1) + ((v.nm.size + 1) + (ms_XT v.ext + (0))) + 1
structure EX where
  nm : ByteArray
  kind : Int
  pl : Int
  deriving DecidableEq
def cs_EX (v : EX) : List PV := [.str v.nm, .int .i64 v.kind, .int .u32 v.pl]
def ok_EX (v : EX) : Prop := v.nm.size ≤ maxLen ∧ (Lit.int .i64 v.kind).wf = true ∧ (Lit.int .u32 v.pl).wf = true ∧ True
def ms_EX (v : EX) : Nat := (v.nm.size + 1) + (1 + (1 + (0))) + 1
end Go.Proofs.YthnmienjiangkaaDoor.Pi.Q
namespace Go.Proofs.YthnmienjiangkaaDoor.Pi.Q
open Go Go.Proofs.YthnmienjiangkaaDoor.Pi
inductive Like : List SK → List PV → List PV → Prop where
  | nil : Like [] [] []
  | int {k : IntKind} {a b : Int} {ks : List SK} {x y : List PV} (h : Like ks x y) : Like (.int :: ks) (.int k a :: x) (.int k b :: y)
  | bool {a b : Bool} {ks : List SK} {x y : List PV} (h : Like ks x y) : Like (.bool :: ks) (.bool a :: x) (.bool b :: y)
  | str {a b : ByteArray} {ks : List SK} {x y : List PV} (h : Like ks x y) : Like (.str :: ks) (.str a :: x) (.str b :: y)
theorem beq_ba {a b : ByteArray} : (a == b) = true ↔ a = b := by
  obtain ⟨a⟩ := a
  obtain ⟨b⟩ := b
  show (a == b) = true ↔ _
  rw [beq_iff_eq]
  exact ⟨fun h => by rw [h], fun h => by injection h⟩
theorem uom {ks : List SK} {x y : List PV} (h : Like ks x y) : (x = y → u1i ks x y = some true) ∧ (x ≠ y → u1i ks x y = some false) := by
  induction h with
  | nil => exact ⟨fun _ => rfl, fun h => absurd rfl h⟩
  | @int k a b ks x y h ih =>
    have e : u1i (.int :: ks) (.int k a :: x) (.int k b :: y) = if a = b then u1i ks x y else some false := by
      by_cases h : a = b
      · subst h
        have e1 : u1m .int (.int k a) (.int k a) = some true := by simp [u1m]
        rw [if_pos rfl, u1i, e1]
      · have e1 : u1m .int (.int k a) (.int k b) = some false := by simp [u1m, h]
        rw [if_neg h, u1i, e1]
    rw [e]
    constructor
    · intro hxy
      simp only [List.cons.injEq, PV.int.injEq, true_and] at hxy
      rw [if_pos hxy.1]
      exact ih.1 hxy.2
    · intro hxy
      by_cases hab : a = b
      · rw [if_pos hab]
        exact ih.2 fun g => hxy (by rw [hab, g])
      · rw [if_neg hab]
  | @bool a b ks x y h ih =>
    have e : u1i (.bool :: ks) (.bool a :: x) (.bool b :: y) = if a = b then u1i ks x y else some false := by
      by_cases h : a = b
      · subst h
        have e1 : u1m .bool (.bool a) (.bool a) = some true := by simp [u1m]
        rw [if_pos rfl, u1i, e1]
      · have e1 : u1m .bool (.bool a) (.bool b) = some false := by simp [u1m, h]
        rw [if_neg h, u1i, e1]
    rw [e]
    constructor
    · intro hxy
      simp only [List.cons.injEq, PV.bool.injEq] at hxy
      rw [if_pos hxy.1]
      exact ih.1 hxy.2
    · intro hxy
      by_cases hab : a = b
      · rw [if_pos hab]
        exact ih.2 fun g => hxy (by rw [hab, g])
      · rw [if_neg hab]
  | @str a b ks x y h ih =>
    have e : u1i (.str :: ks) (.str a :: x) (.str b :: y) = if a = b then u1i ks x y else some false := by
      by_cases h : a = b
      · subst h
        have := beq_ba.mpr (rfl : a = a)
        simp only [u1i, u1m, this, if_true]
      · have : (a == b) = false := by
          cases hb : (a == b) with
          | false => rfl
          | true => exact absurd (beq_ba.mp hb) h
        simp only [u1i, u1m, this, if_neg h]
    rw [e]
    constructor
    · intro hxy
      simp only [List.cons.injEq, PV.str.injEq] at hxy
      rw [if_pos hxy.1]
      exact ih.1 hxy.2
    · intro hxy
      by_cases hab : a = b
      · rw [if_pos hab]
        exact ih.2 fun g => hxy (by rw [hab, g])
      · rw [if_neg hab]
theorem u53 {ks : List SK} {x y : List PV} {H : Heap} (h : Like ks x y) {p : Prop} [Decidable p] (hp : x = y ↔ p) : run (bi .eql (.struct ks) (.agg x) (.agg y)) H = some (.ok (.bool (decide p)) H) := by
  have hh := uom h
  show (match u1i ks x y with | some b => M.pure (PV.bool b) | none => M.fail) H = _
  by_cases g : x = y
  · rw [hh.1 g, decide_eq_true (hp.mp g)]; rfl
  · rw [hh.2 g, decide_eq_false (fun q => g (hp.mpr q))]; rfl
end Go.Proofs.YthnmienjiangkaaDoor.Pi.Q
namespace Go.Proofs.YthnmienjiangkaaDoor.Pi.Q
open Go Go.Proofs.YthnmienjiangkaaDoor.Pi
attribute [local congr] ite_congr
def accB (b : List UInt8) : PV := accP 1 (bytes b)
theorem byt_of {n : Nat} (h : n < 256) : byt (UInt8.ofNat n) = .int .u8 n := by
  unfold byt
  rw [UInt8.toNat_ofNat', Nat.mod_eq_of_lt h]
theorem bs_byt {n : Nat} (h : n < 256) {K : Heap} : run (bs true none [.int .u8 n]) K = some (.ok (.slice true false 1 [byt (UInt8.ofNat n)]) K) := by
  rw [byt_of h]
  rfl
theorem u20 {n : Nat} (h : n < 256) {K : Heap} : bsR true none [.int .u8 n] K = some (.ok (.slice true false 1 [byt (UInt8.ofNat n)]) K) := by
  rw [byt_of h]
  rfl
theorem ap_B {acc : List UInt8} {c : UInt8} {K : Heap} (h : acc.length + 1 ≤ 140737488355328) : run (ap true 1 1 (accB acc) (.slice true false 1 [byt c])) K = some (.ok (accB (acc ++ [c])) K) := by
  have := ap_acc (H := K) (sz := 1) (b := 1) (l := bytes acc) (v := byt c) (o := true) (by simpa [bytes] using h)
  unfold accB
  rw [this]
  simp [bytes]
def putU (n : Nat) : List UInt8 := if n < 128 then [UInt8.ofNat n] else UInt8.ofNat (n % 128 + 128) :: putU (n / 128)
termination_by n
decreasing_by omega
theorem or128 : ∀ m : Fin 256, IntKind.u8.wrap (BitVec.ofInt 8 (m.val : Int) ||| BitVec.ofInt 8 128).toNat = ((m.val % 128 + 128 : Nat) : Int) := by decide +kernel
theorem ukb (n : Nat) : bi .or .none (.int .u8 ((n % 256 : Nat) : Int)) (.int .u8 128) = M.pure (.int .u8 ((n % 128 + 128 : Nat) : Int)) := by
  rw [run_or]
  have := or128 ⟨n % 256, by omega⟩
  have e : n % 256 % 128 = n % 128 := by omega
  simp only [e] at this
  rw [show IntKind.u8.bits = 8 from rfl, this]
theorem shr7 (n : Nat) : bi .shr .none (.int .u64 (n : Int)) (.int .u64 7) = M.pure (.int .u64 ((n / 128 : Nat) : Int)) := by
  rw [uge (by omega)]
  have : (n : Int).fdiv (2 ^ shiftN .u64 7) = ((n / 128 : Nat) : Int) := by
    have e : (2 : Int) ^ shiftN .u64 7 = 128 := by decide
    rw [e]
    simp [Int.fdiv_eq_ediv]
  rw [this]
theorem uds {H : Heap} {v2 : PV} : ∀ (m n : Nat) (acc : List UInt8), n < 128 ^ (m + 1) → n < 2 ^ 64 → acc.length + m < 1000 → run (u35 (.int .u64 n) v2 (accB acc)) H = some (.ok (accB (acc ++ putU n)) H)
  | m, n, acc, h, hn, hl => by
    have hap := fun c K => ap_B (acc := acc) (c := c) (K := K) (by omega)
    have ht : isTup (accB (acc ++ [UInt8.ofNat n])) = false := u5g
    by_cases h1 : n < 128
    · have c1 : ¬ (127 : Int) < n := by omega
      have hbs := fun K => u20 (n := n) (by omega) (K := K)
      rw [u55, putU, if_pos h1]
      simp +contextual -dsimp (disch := omega) only [↓goDown, goUp, cr, simprocAttr, c1, hbs, hap, ht]
    · cases m with
      | zero => simp at h; omega
      | succ m =>
        have c1 : (127 : Int) < n := by omega
        have hw : IntKind.u8.wrap (n : Int) = ((n % 256 : Nat) : Int) := by rw [show IntKind.u8.wrap (n : Int) = (n : Int) % 256 from rfl]; omega
        have hbs := fun K => u20 (n := n % 128 + 128) (by omega) (K := K)
        have ih := uds (H := H) (v2 := v2) m (n / 128) (acc ++ [UInt8.ofNat (n % 128 + 128)]) (by
          have : 128 ^ (m + 1 + 1) = 128 ^ (m + 1) * 128 := Nat.pow_succ ..
          exact Nat.div_lt_of_lt_mul (by omega)) (by omega) (by simp; omega)
        rw [u55, putU, if_neg h1]
        simp +contextual -dsimp (disch := omega) only [↓goDown, goUp, cr, simprocAttr, c1, hw, ukb, shr7, hbs, hap]
        rw [ih]
        simp
theorem umm {H : Heap} {n : Nat} (hn : n < 2 ^ 64) : run (C u3r [.int .u64 n]) H = some (.ok (accB (putU n)) H) := by
  rw [uh8]
  have h := uds (H := H) (v2 := .slice false true 0 []) 9 n [] (by omega) hn (by simp)
  have h : run (u35 (.int .u64 n) (.slice false true 0 []) (.slice false true 0 [])) H = some (.ok (accB (putU n)) H) := h
  have hl : ∀ k, (accB (putU n)).low k = true := fun k => u8f
  simp +contextual -dsimp (disch := omega) only [↓goDown, goUp, cr, simprocAttr, h, hl]
theorem ubz {H : Heap} {v2 : PV} : ∀ (m n : Nat) (acc : List UInt8), n < 128 ^ (m + 1) → n < 2 ^ 64 → acc.length + m < 1000 → run (u1c (.int .u64 n) v2 (accB acc)) H = some (.ok (accB (acc ++ putU n)) H)
  | m, n, acc, h, hn, hl => by
    have hap := fun c K => ap_B (acc := acc) (c := c) (K := K) (by omega)
    have ht : isTup (accB (acc ++ [UInt8.ofNat n])) = false := u5g
    by_cases h1 : n < 128
    · have c1 : ¬ (128 : Int) ≤ n := by omega
      have hbs := fun K => u20 (n := n) (by omega) (K := K)
      rw [u31, putU, if_pos h1]
      simp +contextual -dsimp (disch := omega) only [↓goDown, goUp, cr, simprocAttr, c1, hbs, hap, ht]
    · cases m with
      | zero => simp at h; omega
      | succ m =>
        have c1 : (128 : Int) ≤ n := by omega
        have hrem : (n : Int).tmod 128 = ((n % 128 : Nat) : Int) := rfl
        have hquo : (n : Int).tdiv 128 = ((n / 128 : Nat) : Int) := rfl
        have hadd : ((n % 128 : Nat) : Int) + 128 = ((n % 128 + 128 : Nat) : Int) := rfl
        have hbs := fun K => u20 (n := n % 128 + 128) (by omega) (K := K)
        have ih := ubz (H := H) (v2 := v2) m (n / 128) (acc ++ [UInt8.ofNat (n % 128 + 128)]) (by
          have : 128 ^ (m + 1 + 1) = 128 ^ (m + 1) * 128 := Nat.pow_succ ..
          exact Nat.div_lt_of_lt_mul (by omega)) (by omega) (by simp; omega)
        rw [u31, putU, if_neg h1]
        simp +contextual -dsimp (disch := omega) only [↓goDown, goUp, cr, simprocAttr, c1, hrem, hquo, hadd, hbs, hap]
        rw [ih]
        simp
theorem uja {H : Heap} {n : Nat} (hn : n < 2 ^ 64) : run (C u19 [.int .u64 n]) H = some (.ok (accB (putU n)) H) := by
  rw [u6v]
  have h := ubz (H := H) (v2 := .slice false true 0 []) 9 n [] (by omega) hn (by simp)
  have h : run (u1c (.int .u64 n) (.slice false true 0 []) (.slice false true 0 [])) H = some (.ok (accB (putU n)) H) := h
  have hl : ∀ k, (accB (putU n)).low k = true := fun k => u8f
  simp +contextual -dsimp (disch := omega) only [↓goDown, goUp, cr, simprocAttr, h, hl]
theorem umh {n : Nat} : putU n ≠ [] := by
  rw [putU]
  split <;> simp
theorem uin : ∀ (m n : Nat), n < 128 ^ (m + 1) → (putU n).length ≤ m + 1
  | m, n, h => by
    rw [putU]
    split
    · simp
    · cases m with
      | zero => simp at h; omega
      | succ m =>
        have := uin m (n / 128) (by
          have : 128 ^ (m + 1 + 1) = 128 ^ (m + 1) * 128 := Nat.pow_succ ..
          exact Nat.div_lt_of_lt_mul (by omega))
        simp only [List.length_cons]
        omega
theorem u5r {n : Nat} (h : n < 2 ^ 64) : (putU n).length ≤ 10 := uin 9 n (by omega)
end Go.Proofs.YthnmienjiangkaaDoor.Pi.Q
namespace Go.Proofs.YthnmienjiangkaaDoor.Pi.Q
open Go Go.Proofs.YthnmienjiangkaaDoor.Pi
attribute [local congr] ite_congr
def putS (n : Int) : List UInt8 := if -64 ≤ n ∧ n ≤ 63 then [UInt8.ofNat (n % 128).toNat] else UInt8.ofNat ((n % 128).toNat + 128) :: putS (n / 128)
termination_by n.natAbs
decreasing_by omega
theorem and127 : ∀ m : Fin 256, IntKind.u8.wrap (BitVec.ofInt 8 (m.val : Int) &&& BitVec.ofInt 8 127).toNat = ((m.val % 128 : Nat) : Int) := by decide +kernel
theorem uo8 (n : Nat) : bi .and .none (.int .u8 ((n % 256 : Nat) : Int)) (.int .u8 127) = M.pure (.int .u8 ((n % 128 : Nat) : Int)) := by
  rw [ucw]
  have := and127 ⟨n % 256, by omega⟩
  have e : n % 256 % 128 = n % 128 := by omega
  simp only [e] at this
  rw [show IntKind.u8.bits = 8 from rfl, this]
theorem shrS (n : Int) : bi .shr .none (.int .i64 n) (.int .u64 7) = M.pure (.int .i64 (n / 128)) := by
  rw [uge (by omega)]
  have : n.fdiv (2 ^ shiftN .i64 7) = n / 128 := by
    have e : (2 : Int) ^ shiftN .i64 7 = 128 := by decide
    rw [e]
    simp [Int.fdiv_eq_ediv]
  rw [this]
theorem udr {H : Heap} {v2 : PV} : ∀ (m : Nat) (n : Int) (acc : List UInt8), -(64 * 128 ^ m) ≤ n → n < 64 * 128 ^ m → -9223372036854775808 ≤ n → n ≤ 9223372036854775807 → acc.length + m < 1000 →
    run (u36 (.int .i64 n) v2 (accB acc)) H = some (.ok (accB (acc ++ putS n)) H)
  | m, n, acc, h, h', hn, hn', hl => by
    have hap := fun c K => ap_B (acc := acc) (c := c) (K := K) (by omega)
    have hm : ((n % 128).toNat : Int) = n % 128 := Int.toNat_of_nonneg (by omega)
    have hw : IntKind.u8.wrap n = (((n % 256).toNat % 256 : Nat) : Int) := by rw [show IntKind.u8.wrap n = n % 256 from rfl]; omega
    have e128 : (n % 256).toNat % 128 = (n % 128).toNat := by omega
    by_cases h1 : -64 ≤ n ∧ n ≤ 63
    · have c1 : ¬ n < -64 := by omega
      have c2 : ¬ 63 < n := by omega
      have ha := uo8 (n % 256).toNat
      rw [e128] at ha
      have hbs := fun K => u20 (n := (n % 128).toNat) (by omega) (K := K)
      have ht : isTup (accB (acc ++ [UInt8.ofNat (n % 128).toNat])) = false := u5g
      rw [u54, putS, if_pos h1]
      simp +contextual -dsimp (disch := omega) only [↓goDown, goUp, cr, simprocAttr, c1, c2, hw, ha, hbs, hap, ht]
    · cases m with
      | zero => simp at h h'; omega
      | succ m =>
        have ho := ukb (n % 256).toNat
        rw [e128] at ho
        have hbs := fun K => u20 (n := (n % 128).toNat + 128) (by omega) (K := K)
        have ih := udr (H := H) (v2 := v2) m (n / 128) (acc ++ [UInt8.ofNat ((n % 128).toNat + 128)]) (by
          have : (128 : Int) ^ (m + 1) = 128 ^ m * 128 := Int.pow_succ ..
          omega) (by
          have : (128 : Int) ^ (m + 1) = 128 ^ m * 128 := Int.pow_succ ..
          omega) (by omega) (by omega) (by simp; omega)
        rw [u54, putS, if_neg h1]
        by_cases c1 : n < -64
        · simp +contextual -dsimp (disch := omega) only [↓goDown, goUp, cr, simprocAttr, c1, hw, ho, shrS, hbs, hap]
          rw [ih]
          simp
        · have c2 : 63 < n := by omega
          simp +contextual -dsimp (disch := omega) only [↓goDown, goUp, cr, simprocAttr, c1, c2, hw, ho, shrS, hbs, hap]
          rw [ih]
          simp
theorem upo {H : Heap} {n : Int} (hn : -9223372036854775808 ≤ n) (hn' : n ≤ 9223372036854775807) : run (C u3y [.int .i64 n]) H = some (.ok (accB (putS n)) H) := by
  rw [ugf]
  have h := udr (H := H) (v2 := .slice false true 0 []) 9 n [] (by omega) (by omega) hn hn' (by simp)
  have h : run (u36 (.int .i64 n) (.slice false true 0 []) (.slice false true 0 [])) H = some (.ok (accB (putS n)) H) := h
  have hl : ∀ k, (accB (putS n)).low k = true := fun k => u8f
  simp +contextual -dsimp (disch := omega) only [↓goDown, goUp, cr, simprocAttr, h, hl]
theorem upf (n : Int) : bi .and .none (.int .i64 n) (.int .i64 127) = M.pure (.int .i64 (n % 128)) := by
  rw [ucw, show IntKind.i64.bits = 64 from rfl]
  have e : (BitVec.ofInt 64 n &&& BitVec.ofInt 64 127).toNat = (n % 128).toNat := by
    rw [BitVec.toNat_and, BitVec.toNat_ofInt, show (BitVec.ofInt 64 127).toNat = 2 ^ 7 - 1 from rfl, Nat.and_two_pow_sub_one_eq_mod]
    omega
  rw [e, Int.toNat_of_nonneg (by omega), show IntKind.i64.wrap (n % 128) = n % 128 from by rw [wi]; omega]
theorem uc2 {H : Heap} {v2 : PV} : ∀ (m : Nat) (n : Int) (acc : List UInt8), -(64 * 128 ^ m) ≤ n → n < 64 * 128 ^ m → -9223372036854775808 ≤ n → n ≤ 9223372036854775807 → acc.length + m < 1000 →
    run (u1e (.int .i64 n) v2 (accB acc)) H = some (.ok (accB (acc ++ putS n)) H)
  | m, n, acc, h, h', hn, hn', hl => by
    have hap := fun c K => ap_B (acc := acc) (c := c) (K := K) (by omega)
    have hm : n % 128 = ((n % 128).toNat : Int) := (Int.toNat_of_nonneg (by omega)).symm
    have ha := upf n
    rw [hm] at ha
    by_cases h1 : -64 ≤ n ∧ n ≤ 63
    · have c1 : ¬ n < -64 := by omega
      have c2 : ¬ 63 < n := by omega
      have hbs := fun K => u20 (n := (n % 128).toNat) (by omega) (K := K)
      have ht : isTup (accB (acc ++ [UInt8.ofNat (n % 128).toNat])) = false := u5g
      rw [u34, putS, if_pos h1]
      simp +contextual -dsimp (disch := omega) only [↓goDown, goUp, cr, simprocAttr, c1, c2, ha, hbs, hap, ht]
    · cases m with
      | zero => simp at h h'; omega
      | succ m =>
        have hadd : (((n % 128).toNat : Nat) : Int) + 128 = (((n % 128).toNat + 128 : Nat) : Int) := rfl
        have hbs := fun K => u20 (n := (n % 128).toNat + 128) (by omega) (K := K)
        have ih := uc2 (H := H) (v2 := v2) m (n / 128) (acc ++ [UInt8.ofNat ((n % 128).toNat + 128)]) (by
          have : (128 : Int) ^ (m + 1) = 128 ^ m * 128 := Int.pow_succ ..
          omega) (by
          have : (128 : Int) ^ (m + 1) = 128 ^ m * 128 := Int.pow_succ ..
          omega) (by omega) (by omega) (by simp; omega)
        rw [u34, putS, if_neg h1]
        by_cases c1 : n < -64
        · simp +contextual -dsimp (disch := omega) only [↓goDown, goUp, cr, simprocAttr, c1, ha, hadd, shrS, hbs, hap]
          rw [ih]
          simp
        · have c2 : 63 < n := by omega
          simp +contextual -dsimp (disch := omega) only [↓goDown, goUp, cr, simprocAttr, c1, c2, ha, hadd, shrS, hbs, hap]
          rw [ih]
          simp
theorem uoy {H : Heap} {n : Int} (hn : -9223372036854775808 ≤ n) (hn' : n ≤ 9223372036854775807) : run (C u1r [.int .i64 n]) H = some (.ok (accB (putS n)) H) := by
  rw [u6u]
  have h := uc2 (H := H) (v2 := .slice false true 0 []) 9 n [] (by omega) (by omega) hn hn' (by simp)
  have h : run (u1e (.int .i64 n) (.slice false true 0 []) (.slice false true 0 [])) H = some (.ok (accB (putS n)) H) := h
  have hl : ∀ k, (accB (putS n)).low k = true := fun k => u8f
  simp +contextual -dsimp (disch := omega) only [↓goDown, goUp, cr, simprocAttr, h, hl]
end Go.Proofs.YthnmienjiangkaaDoor.Pi.Q
namespace Go.Proofs.YthnmienjiangkaaDoor.Pi.Q
open Go Go.Proofs.YthnmienjiangkaaDoor.Pi
attribute [local congr] ite_congr
inductive Wr where
  | ok (u : List UInt8)
  | err (w : Nat)
theorem uor {H : Heap} {x : PV} : run (C u0k [x, .bool true]) H = some (.ok (.tup []) H) := by
  rw [u3z]
  simp +contextual -dsimp (disch := omega) only [↓goDown, goUp, cr, simprocAttr, un_not]
theorem uo5 {H : Heap} {x : PV} : run (C u0k [x, .bool false]) H = some (.pan (flt 0 4) H) := by
  rw [u3z]
  simp +contextual -dsimp (disch := omega) only [↓goDown, goUp, cr, simprocAttr, un_not]
  rfl
theorem umt {H : Heap} {n : Int} : run (C u3q [.int .i64 n]) H = some (.ok (.bool (decide (0 ≤ n ∧ n ≤ 2147483647))) H) := by
  rw [ucz]
  by_cases h1 : 0 ≤ n
  · by_cases h2 : n ≤ 2147483647
    · have e : decide (0 ≤ n ∧ n ≤ 2147483647) = true := decide_eq_true ⟨h1, h2⟩
      rw [e]
      simp +contextual -dsimp (disch := omega) only [↓goDown, goUp, cr, simprocAttr, h1, h2]
    · have e : decide (0 ≤ n ∧ n ≤ 2147483647) = false := decide_eq_false (fun h => h2 h.2)
      rw [e]
      simp +contextual -dsimp (disch := omega) only [↓goDown, goUp, cr, simprocAttr, h1, h2]
  · have e : decide (0 ≤ n ∧ n ≤ 2147483647) = false := decide_eq_false (fun h => h1 h.1)
    rw [e]
    simp +contextual -dsimp (disch := omega) only [↓goDown, goUp, cr, simprocAttr, h1]
def find (h : Int) : List Int → Nat → Option Nat
  | [], _ => none
  | a :: r, i => if a = h then some i else find h r (i + 1)
def absI : List Int := [-11, -9, -8, -7, -6, -5, -3, -1, -10, -4, -2, -12]
theorem uhf : ∀ (m : Nat) (n : Int), -(64 * 128 ^ m) ≤ n → n < 64 * 128 ^ m → (putS n).length ≤ m + 1
  | m, n, h, h' => by
    rw [putS]
    split
    · simp
    · cases m with
      | zero => simp at h h'; omega
      | succ m =>
        have e : (128 : Int) ^ (m + 1) = 128 ^ m * 128 := Int.pow_succ ..
        have := uhf m (n / 128) (by omega) (by omega)
        simp only [List.length_cons]
        omega
theorem ulz {H : Heap} {c : Nat} {h a : Int} {cs : List PV} {i : Nat} (hi : i < 12) (ha : nth cs i = some (.int .i64 a)) :
    run (u0s (.ptr c 0) (.int .i64 h) (.agg cs) (.int .i64 i)) H =
      if a = h then run (M.bind (C u0n [.ptr c 0, .int .u8 ((105 + i : Nat) : Int)]) fun _ => M.pure (.tup [])) H
      else run (u0s (.ptr c 0) (.int .i64 h) (.agg cs) (.int .i64 ((i + 1 : Nat) : Int))) H := by
  have c1 : (i : Int) < 12 := by omega
  have hx : run (ixA 12 1 none (.agg cs) (.int .i64 i)) H = some (.ok (.int .i64 a) H) := by
    rw [uq2, if_pos ⟨by omega, by omega⟩, Int.toNat_natCast, ha]
    rfl
  have e1 : (105 : Int) + i = ((105 + i : Nat) : Int) := by omega
  have e2 : (i : Int) + 1 = ((i + 1 : Nat) : Int) := rfl
  rw [u3o]
  by_cases hc : a = h
  · rw [if_pos hc]
    have c2 : (a = h) = True := eq_true hc
    simp +contextual -dsimp (disch := omega) only [↓goDown, goUp, cr, simprocAttr, c1, hx, c2, e1]
  · rw [if_neg hc]
    have c2 : (a = h) = False := eq_false hc
    simp +contextual -dsimp (disch := omega) only [↓goDown, goUp, cr, simprocAttr, c1, hx, c2, e2]
end Go.Proofs.YthnmienjiangkaaDoor.Pi.Q
namespace Go.Proofs.YthnmienjiangkaaDoor.Pi.Q
open Go Go.Proofs.YthnmienjiangkaaDoor.Pi
attribute [local congr] ite_congr
abbrev KR := Res (List UInt8) Unit
def encU (_ : Unit) : PV := .tup []
theorem u0e {u : Unit} : encU u = .tup [] := nrfl rfl
abbrev pB (acc : List UInt8) : Box := .cells [accB acc]
theorem u0j {a : List UInt8} : isCell (accB a) = true := ujx
theorem u0v {a : List UInt8} : (accB a).cells = [accB a] := uku
theorem low_B {a : List UInt8} {k : Nat} : (accB a).low k = true := u8f
theorem u2w {a : List UInt8} : isTup (accB a) = false := u5g
def kPut (u acc : List UInt8) : KR := if acc.length + u.length ≤ 140737488355328 then .ok () (acc ++ u) else .no
def kMust (b : Bool) (acc : List UInt8) : KR := if b = true then .ok () acc else .err u0h [0, 4]
theorem ap_X {acc u : List UInt8} {K : Heap} : run (ap true 1 1 (accB acc) (accB u)) K = if acc.length + u.length ≤ 140737488355328 then some (.ok (accB (acc ++ u)) K) else none := by
  cases acc with
  | nil => cases u with
    | nil => rfl
    | cons x r =>
      unfold accB accP run ap tail growB
      simp only [bytes, List.map_cons, List.map_nil, List.nil_append, List.length_nil, Nat.zero_add, beq_self_eq_true, Bool.or_true, cond_true, List.isEmpty_cons, cond_false, List.length_cons, List.length_map, Nat.mul_one, Nat.max_self]
      by_cases h : r.length + 1 ≤ 140737488355328
      · rw [decide_eq_true h, if_pos h]; rfl
      · rw [decide_eq_false h, if_neg h]; rfl
  | cons y a =>
    have key : (bytes (y :: a)).length + (bytes u).length = (y :: a).length + u.length := by simp [bytes]
    cases u with
    | nil =>
      unfold accB accP run ap tail growB
      simp only [bytes, List.map_cons, List.map_nil, List.append_nil, List.length_nil, Nat.add_zero, beq_self_eq_true, Bool.or_true, Bool.true_or, cond_true, cond_false, List.length_cons, List.length_map, Nat.mul_one, Nat.max_self, Bool.true_and]
      by_cases h : a.length + 1 ≤ 140737488355328
      · rw [decide_eq_true h, if_pos h]; rfl
      · rw [decide_eq_false h, if_neg h]; rfl
    | cons x r =>
      unfold accB accP run ap tail growB
      simp only [bytes, List.map_cons, List.map_nil, List.length_cons, List.length_map, beq_self_eq_true, Bool.or_true, cond_true, cond_false, Nat.mul_one, Nat.max_self, Bool.true_and]
      by_cases h : a.length + 1 + (r.length + 1) ≤ 140737488355328
      · rw [decide_eq_true h, if_pos h]
        simp only [cond_true, List.cons_append, List.map_cons, List.map_append]
        rfl
      · rw [decide_eq_false h, if_neg h]; rfl
theorem ap_X1 {acc : List UInt8} {c : UInt8} {K : Heap} : run (ap true 1 1 (accB acc) (.slice true false 1 [byt c])) K = if acc.length + 1 ≤ 140737488355328 then some (.ok (accB (acc ++ [c])) K) else none := ap_X (u := [c])
variable {c : Nat} {H : Heap} {L : List Box} {acc : List UInt8}
theorem mustK {b : Bool} (hc : c < List.length H) : runK c (C u0k [.ptr c 0, .bool b]) (St H c (pB acc) L) = outK c H L pB encU (kMust b acc) := by
  cases b with
  | true => rw [toK, uor]; rfl
  | false =>
    rw [toK, uo5]
    show some (Out.pan _ (hset (St H c (pB acc) L) c .dead)) = some (Out.pan _ (St H c .dead L))
    rw [set_St hc]; rfl
theorem byteK {n : Int} (h0 : 0 ≤ n) (h1 : n < 256) (hc : c < List.length H) : runK c (C u0n [.ptr c 0, .int .u8 n]) (St H c (pB acc) L) = outK c H L pB encU (kPut [UInt8.ofNat n.toNat] acc) := liftK (fun H hc => by
  obtain ⟨n, rfl⟩ := Int.eq_ofNat_of_zero_le h0
  have hbs := fun K => u20 (n := n) (by omega) (K := K)
  rw [u5h, Int.toNat_natCast]
  unfold kPut
  simp +contextual -dsimp (disch := omega) only [↓kDown, kUp, ↓goDown, goUp, cr, simprocAttr, hbs, ap_X1, u0j, u0v, low_B, u0e]) hc
theorem uK {n : Int} (h0 : 0 ≤ n) (h1 : n < 18446744073709551616) (hc : c < List.length H) : runK c (C u39 [.ptr c 0, .int .u64 n]) (St H c (pB acc) L) = outK c H L pB encU (kPut (putU n.toNat) acc) := liftK (fun H hc => by
  obtain ⟨n, rfl⟩ := Int.eq_ofNat_of_zero_le h0
  have hp := fun K => umm (H := K) (n := n) (by omega)
  rw [ubg, Int.toNat_natCast]
  unfold kPut
  simp +contextual -dsimp (disch := omega) only [↓kDown, kUp, ↓goDown, goUp, cr, simprocAttr, toK (m := C u3r [.int .u64 (n : Int)]), hp, ap_X, u0j, u0v, low_B, u0e]) hc
theorem flagK {b : Bool} (hc : c < List.length H) : runK c (C u4f [.ptr c 0, .bool b]) (St H c (pB acc) L) = outK c H L pB encU (kPut [if b then 1 else 0] acc) := liftK (fun H hc => by
  rw [u8b]
  have h1 := fun L acc => byteK (c := c) (H := H) (L := L) (acc := acc) (n := 1) (by omega) (by omega) hc
  have h0 := fun L acc => byteK (c := c) (H := H) (L := L) (acc := acc) (n := 0) (by omega) (by omega) hc
  cases b <;> simp +contextual -dsimp (disch := omega) only [↓kDown, kUp, ↓goDown, goUp, cr, simprocAttr, h1, h0, u0e] <;> rfl) hc
def kIndex (n : Int) (acc : List UInt8) : KR := if 0 ≤ n ∧ n ≤ 2147483647 then kPut (putU n.toNat) acc else .err u0h [0, 4]
theorem indexK {n : Int} (hc : c < List.length H) : runK c (C u3b [.ptr c 0, .int .i64 n]) (St H c (pB acc) L) = outK c H L pB encU (kIndex n acc) := liftK (fun H hc => by
  rw [u7v]
  unfold kIndex
  simp +contextual -dsimp (disch := omega) only [↓kDown, kUp, ↓goDown, goUp, cr, simprocAttr, toK (m := C u3q [.int .i64 n]), umt, mustK, kMust, uK, u0e]) hc
def kNamed : Option Nat → List UInt8 → KR
  | some j, acc => kPut [UInt8.ofNat (105 + j)] acc
  | none, _ => .err u0h [0, 4]
def kHeap (h : Int) (acc : List UInt8) : KR :=
  if 0 ≤ h then if h ≤ 2147483647 then kPut (putS h) acc else .err u0h [0, 4] else kNamed (find h absI 0) acc
theorem uk9 {h a : Int} {cs : List PV} {i : Nat} (hi : i < 12) (ha : nth cs i = some (.int .i64 a)) (hc : c < List.length H) :
    runK c (u0s (.ptr c 0) (.int .i64 h) (.agg cs) (.int .i64 i)) (St H c (pB acc) []) =
      if a = h then outK c H [] pB encU (kPut [UInt8.ofNat (105 + i)] acc)
      else runK c (u0s (.ptr c 0) (.int .i64 h) (.agg cs) (.int .i64 ((i + 1 : Nat) : Int))) (St H c (pB acc) []) := by
  unfold runK
  rw [ulz hi ha]
  by_cases hc2 : a = h
  · rw [if_pos hc2, if_pos hc2]
    have hb := byteK (c := c) (H := H) (L := []) (acc := acc) (n := ((105 + i : Nat) : Int)) (by omega) (by omega) hc
    rw [Int.toNat_natCast] at hb
    show runK c _ _ = _
    simp +contextual -dsimp (disch := omega) only [↓kDown, kUp, ↓goDown, goUp, cr, simprocAttr, hb, u0e]
  · rw [if_neg hc2, if_neg hc2]
theorem uc5 {h : Int} {cs : List PV} (hc : c < List.length H) : ∀ (l : List Int) (i : Nat), (∀ k (a : Int), l[k]? = some a → nth cs (i + k) = some (.int .i64 a)) → i + l.length = 12 →
    runK c (u0s (.ptr c 0) (.int .i64 h) (.agg cs) (.int .i64 i)) (St H c (pB acc) []) = outK c H [] pB encU (kNamed (find h l i) acc)
  | [], i, hcs, hi => by
    have c1 : ¬ (i : Int) < 12 := by simp at hi; omega
    rw [u3o]
    simp only [find, kNamed]
    simp +contextual -dsimp (disch := omega) only [↓kDown, kUp, ↓goDown, goUp, cr, simprocAttr, c1, mustK, kMust]
  | a :: r, i, hcs, hi => by
    have hi12 : i < 12 := by simp at hi; omega
    rw [uk9 hi12 (by simpa using hcs 0 a rfl) hc]
    unfold find
    by_cases hc2 : a = h
    · rw [if_pos hc2, if_pos hc2]; rfl
    · rw [if_neg hc2, if_neg hc2]
      exact uc5 hc r (i + 1) (fun k b hb => by
        have := hcs (k + 1) b (by simpa using hb)
        rwa [show i + (k + 1) = i + 1 + k by omega] at this) (by simp at hi; omega)
theorem heapK {h : Int} (hc : c < List.length H) : runK c (C u3h [.ptr c 0, .int .i64 h]) (St H c (pB acc) L) = outK c H L pB encU (kHeap h acc) := liftK (fun H hc => by
  have hlp : runK c (u0s (.ptr c 0) (.int .i64 h) (.agg [.int .i64 (-11), .int .i64 (-9), .int .i64 (-8), .int .i64 (-7), .int .i64 (-6), .int .i64 (-5), .int .i64 (-3), .int .i64 (-1), .int .i64 (-10), .int .i64 (-4), .int .i64 (-2), .int .i64 (-12)]) (.int .i64 0)) (St H c (pB acc) []) = _ := uc5 (acc := acc) (h := h) (cs := [.int .i64 (-11), .int .i64 (-9), .int .i64 (-8), .int .i64 (-7), .int .i64 (-6), .int .i64 (-5), .int .i64 (-3), .int .i64 (-1), .int .i64 (-10), .int .i64 (-4), .int .i64 (-2), .int .i64 (-12)]) hc absI 0 (fun k a hk => by
      have hk12 : k < 12 := by have := (List.getElem?_eq_some_iff.mp hk).1; simpa [absI] using this
      have : k = 0 ∨ k = 1 ∨ k = 2 ∨ k = 3 ∨ k = 4 ∨ k = 5 ∨ k = 6 ∨ k = 7 ∨ k = 8 ∨ k = 9 ∨ k = 10 ∨ k = 11 := by omega
      rcases this with rfl | rfl | rfl | rfl | rfl | rfl | rfl | rfl | rfl | rfl | rfl | rfl <;> (simp [absI] at hk; subst hk; rfl)) rfl
  rw [u8n]
  unfold kHeap
  by_cases h0 : 0 ≤ h
  · have hp := fun (h1 : h ≤ 2147483647) K => upo (H := K) (n := h) (by omega) (by omega)
    unfold kPut
    simp +contextual -dsimp (disch := omega) only [↓kDown, kUp, ↓goDown, goUp, cr, simprocAttr, h0, toK (m := C u3q [.int .i64 h]), umt, mustK, kMust, toK (m := C u3y [.int .i64 h]), hp, ap_X, u0j, u0v, low_B, u0e]
  · simp +contextual -dsimp (disch := omega) only [↓kDown, kUp, ↓goDown, goUp, cr, simprocAttr, h0, toK (m := C u3k []), uh5, hlp]) hc
def kVal (v : VT) (acc : List UInt8) : KR :=
  if v.num = 5 then (if v.nul = false then kPut [100] acc else if 0 ≤ v.heap then kPut [99] acc else .ok () acc).bind fun _ acc => kHeap v.heap acc
  else if 1 ≤ v.num ∧ v.num ≤ 4 ∧ v.nul = false ∧ v.heap = 0 then kPut [UInt8.ofNat (128 - v.num).toNat] acc else .err u0h [0, 4]
theorem valK {v : VT} (hc : c < List.length H) : runK c (C u2j [.ptr c 0, .agg [.int .i64 v.num, .bool v.nul, .int .i64 v.heap]]) (St H c (pB acc) L) = outK c H L pB encU (kVal v acc) := liftK (fun H hc => by
  have h1 := fun L acc => byteK (c := c) (H := H) (L := L) (acc := acc) (n := 100) (by omega) (by omega) hc
  have h0 := fun L acc => byteK (c := c) (H := H) (L := L) (acc := acc) (n := 99) (by omega) (by omega) hc
  have h2 := fun L acc h0 h1 => byteK (c := c) (H := H) (L := L) (acc := acc) (n := 128 - v.num) h0 h1 hc
  rw [u5v]
  unfold kVal
  by_cases h5 : v.num = 5
  · cases v.nul <;> simp +contextual -dsimp (disch := omega) only [↓kDown, kUp, ↓goDown, goUp, cr, simprocAttr, h5, un_not, h1, h0, heapK, u5w, u0e] <;> rfl
  · by_cases a1 : 1 ≤ v.num
    · by_cases a2 : v.num ≤ 4
      · cases v.nul <;> simp +contextual -dsimp (disch := omega) only [↓kDown, kUp, ↓goDown, goUp, cr, simprocAttr, h5, eq_true a1, eq_true a2, un_not, mustK, kMust, h2, u0e]
      · simp +contextual -dsimp (disch := omega) only [↓kDown, kUp, ↓goDown, goUp, cr, simprocAttr, h5, eq_true a1, a2, un_not, mustK, kMust, h2, u0e]
    · simp +contextual -dsimp (disch := omega) only [↓kDown, kUp, ↓goDown, goUp, cr, simprocAttr, h5, a1, un_not, mustK, kMust, h2, u0e]) hc
end Go.Proofs.YthnmienjiangkaaDoor.Pi.Q
namespace Go.Proofs.YthnmienjiangkaaDoor.Pi.Q
open Go Go.Proofs.YthnmienjiangkaaDoor.Pi
attribute [local congr] ite_congr
variable {c : Nat} {H : Heap} {L : List Box} {acc : List UInt8}
theorem unkill {K H' : Heap} (hc : c < List.length K) (h : hset H' c .dead = St K c .dead []) : ∃ b, H' = St K c b [] := by
  have hl : List.length H' = List.length K := by
    have := congrArg List.length h
    rw [u6e, len_St] at this
    simpa using this
  have hc' : c < List.length H' := by omega
  refine ⟨H'[c], ?_⟩
  have h2 := congrArg (fun K => hset K c (H'[c])) h
  simp only [set_set, set_St hc] at h2
  rw [← h2]
  unfold hset
  exact (List.set_getElem_self hc').symm
theorem u9q {m : M PV} {K K' : Heap} {v : PV} (h : runK c m K = some (.ok v K')) : run m K = some (.ok v K') := by
  unfold runK killR at h
  cases hr : run m K with
  | none => rw [hr] at h; cases h
  | some q => cases q with
    | ok a b => rw [hr] at h; exact h
    | pan a b => rw [hr] at h; simp at h
theorem ujk {m : M PV} {K K' : Heap} {v : PV} (hc : c < List.length K') (h : runK c m K = some (.pan v (St K' c .dead []))) : ∃ b, run m K = some (.pan v (St K' c b [])) := by
  unfold runK killR at h
  cases hr : run m K with
  | none => rw [hr] at h; cases h
  | some q => cases q with
    | ok a b => rw [hr] at h; simp at h
    | pan a b =>
      rw [hr] at h
      simp only [Option.some.injEq, Out.pan.injEq] at h
      obtain ⟨h1, h2⟩ := h
      obtain ⟨b, rfl⟩ := unkill hc h2
      exact ⟨b, by rw [h1]⟩
theorem u2g {a : List UInt8} : stripC (accB a) = LZ true 1 (bytes a) := stripC_acc.trans unb
theorem fd1_is {x y : PV} : fd 1 none (.agg [x, y]) = M.pure (stripC y) := rfl
def outW (r : KR) (H : Heap) : Option (Out PV) :=
  match r with
  | .ok _ acc => some (.ok (.tup [LZ true 1 (bytes acc), .int .i64 0]) H)
  | .err t [_, w] => if t = u0h then some (.ok (.tup [.slice false true 0 [], .int .i64 w]) H) else none
  | _ => none
theorem uoq {f : PV} {r : KR} (hf : strip f = f) (hr : ∀ t l, r = .err t l → t = u0h ∧ ∃ p w, l = [p, w]) (hno : r ≠ .no)
    (h : ∀ (L : List Box) (c : Nat), List.length H ≤ c → c < List.length (hadd H L) → runK c (callV P C f [.ptr c 0]) (St (hadd H L) c (pB []) []) = outK c (hadd H L) [] pB encU r) :
    run (C u2h [f]) H = outW r H := by
  have e0 : ∀ (b b2 b3 : Box), St (hadd H [b2, b3, .dead]) (List.length H + 2) b [] = hadd H [b2, b3, b] := fun b b2 b3 => by
    unfold St hadd hset
    rw [List.append_nil, List.set_append_right _ _ (by omega)]
    simp
  have hh := h [.cells [.slice false true 0 []], .cells [.int .i64 0], .dead] (List.length H + 2) (by omega) (by rw [u4u]; simp)
  rw [e0] at hh
  have hp : pB [] = .cells [.slice false true 0 []] := rfl
  rw [u71]
  cases r with
  | ok u acc =>
    simp only [outK, elimK, e0] at hh
    have hh := u9q hh
    rw [hp] at hh
    simp +contextual -dsimp (disch := omega) only [↓goDown, goUp, cr, simprocAttr, hf, hh, u0e, u0j, u0v, low_B, u2w, u5i, run_mf, run_ta, bi_if, bi_ifn, cutL, um7, Nat.reduceBeqDiff, outW, u2g, u4c, low_Z, u3j, u4e, u3l]
  | err t l =>
    obtain ⟨rfl, p, w, rfl⟩ := hr _ _ rfl
    simp only [outK, elimK] at hh
    obtain ⟨b, hh⟩ := ujk (by rw [u4u]; simp) hh
    rw [e0, hp] at hh
    simp +contextual -dsimp (disch := omega) only [↓goDown, goUp, cr, simprocAttr, hf, hh, ugv, u8g, run_mf, run_ta, bi_if, bi_ifn, cutL, um7, Nat.reduceBeqDiff, outW, List.map_cons, List.map_nil, fd1_is]
  | no => exact absurd rfl hno
def OkR (r : KR) : Prop := (∀ t l, r = .err t l → t = u0h ∧ ∃ p w, l = [p, w]) ∧ r ≠ .no
theorem put_1 {f1 : FuncId} {bx1 : Box} {r : KR} (hr : OkR r) (h : ∀ (K : Heap) (j c : Nat), hget K j = some bx1 → j < c → c < List.length K → runK c (C f1 [.ptr c 0, .ptr j 0]) (St K c (pB []) []) = outK c K [] pB encU r) :
    run (C u2h [.fn f1 [] [.ptr (List.length H) 0]]) (hadd H [bx1]) = outW r (hadd H [bx1]) :=
  uoq (H := hadd H [bx1]) (f := .fn f1 [] [.ptr (List.length H) 0]) rfl hr.1 hr.2 (fun L c h1 h2 => by
    rw [udj]
    refine h _ _ _ ?_ ?_ h2
    · rw [u7j, ud6]; rfl
    · rw [u4u] at h1; simp at h1; omega)
end Go.Proofs.YthnmienjiangkaaDoor.Pi.Q
namespace Go.Proofs.YthnmienjiangkaaDoor.Pi.Q
open Go Go.Proofs.YthnmienjiangkaaDoor.Pi
attribute [local congr] ite_congr
variable {c : Nat} {H : Heap} {L : List Box} {acc : List UInt8}
def kU (n : Int) (acc : List UInt8) : KR := kPut (putU n.toNat) acc
theorem wf_u64 {n : Int} (h : (Lit.int .u64 n).wf = true) : 0 ≤ n ∧ n < 18446744073709551616 := by
  simp [Lit.wf, IntKind.min, IntKind.max, IntKind.bits, IntKind.signed] at h
  omega
theorem wf_i64 {n : Int} (h : (Lit.int .i64 n).wf = true) : -9223372036854775808 ≤ n ∧ n ≤ 9223372036854775807 := by
  simp [Lit.wf, IntKind.min, IntKind.max, IntKind.bits, IntKind.signed] at h
  omega
def u7a (v : LT) (acc : List UInt8) : KR :=
  (kPut [if v.has then (if v.wide then 5 else 1) else (if v.wide then 4 else 0)] acc).bind fun _ acc =>
  (kMust (v.wide || decide (v.min < 4294967296)) acc).bind fun _ acc =>
  (kU v.min acc).bind fun _ acc =>
  (if v.has = true ∨ v.max = 0 then kMust (v.wide || decide (v.max < 4294967296)) acc else .err u0h [0, 4]).bind fun _ acc =>
  if v.has = true then kU v.max acc else .ok () acc
theorem umw {v : LT} (h1 : 0 ≤ v.min ∧ v.min < 18446744073709551616) (h2 : 0 ≤ v.max ∧ v.max < 18446744073709551616) (hc : c < List.length H) : runK c (C u1w [.ptr c 0, .agg [.bool v.wide, .int .u64 v.min, .int .u64 v.max, .bool v.has]]) (St H c (pB acc) L) = outK c H L pB encU (u7a v acc) := liftK (fun H hc => by
  obtain ⟨wide, min, max, has⟩ := v
  simp only at h1 h2
  have hb := fun n h0 h1 L acc => byteK (c := c) (H := H) (L := L) (acc := acc) (n := n) h0 h1 hc
  have hu1 := fun L acc => uK (c := c) (H := H) (L := L) (acc := acc) (n := min) h1.1 h1.2 hc
  have hu2 := fun L acc => uK (c := c) (H := H) (L := L) (acc := acc) (n := max) h2.1 h2.2 hc
  rw [u7d]
  unfold u7a kU
  cases wide <;> cases has <;>
    simp +contextual -dsimp (disch := omega) only [↓kDown, kUp, ↓goDown, goUp, cr, simprocAttr, hb, hu1, hu2, mustK, kMust, u57, u4z, u0e, Bool.and_self, Bool.and_eq_true, decide_eq_true_eq, Bool.true_or, Bool.false_or, Bool.true_and, true_or, false_or] <;> rfl) hc
def kTag (n : Int) (acc : List UInt8) : KR := (kPut [0] acc).bind fun _ acc => kIndex n acc
theorem tagK {n : Int} (hc : c < List.length H) : runK c (C u4q [.ptr c 0, .int .i64 n]) (St H c (pB acc) L) = outK c H L pB encU (kTag n acc) := liftK (fun H hc => by
  have hb := fun L acc => byteK (c := c) (H := H) (L := L) (acc := acc) (n := 0) (by omega) (by omega) hc
  rw [u96]
  unfold kTag
  simp +contextual -dsimp (disch := omega) only [↓kDown, kUp, ↓goDown, goUp, cr, simprocAttr, hb, indexK, u0e] <;> rfl) hc
theorem get_j {bx1 : Box} {j : Nat} (hj : hget H j = some bx1) (hjc : j < c) (hc : c < List.length H) {a : Box} {L : List Box} : hget (St H c a L) j = some bx1 := by
  unfold St
  rw [u9k (by omega), ujm (by omega)]
  exact hj
end Go.Proofs.YthnmienjiangkaaDoor.Pi.Q
namespace Go.Proofs.YthnmienjiangkaaDoor.Pi.Q
open Go Go.Proofs.YthnmienjiangkaaDoor.Pi
attribute [local congr] ite_congr
structure WS where
  b : List UInt8
  e : Int
abbrev GR := Res WS Unit
abbrev wB (s : WS) : Box := .cells [accB s.b, .int .i64 s.e]
variable {c : Nat} {H : Heap} {L : List Box} {b : List UInt8} {f : Int}
theorem WS.eta {s : WS} : (⟨s.b, s.e⟩ : WS) = s := nrfl rfl
def gPut (u : List UInt8) (s : WS) : GR := if s.b.length + u.length ≤ 140737488355328 then .ok () ⟨s.b ++ u, s.e⟩ else .no
def gMust (ok : Bool) (e : Int) (s : WS) : WS := ⟨s.b, if ok = false ∧ s.e = 0 then e else s.e⟩
theorem gmustK {ok : Bool} {e : Int} (hc : c < List.length H) : runK c (C u05 [.ptr c 0, .bool ok, .int .i64 e]) (St H c (.cells [accB b, .int .i64 f]) L) = outK c H L wB encU (.ok () (gMust ok e ⟨b, f⟩)) := liftK (fun H hc => by
  rw [u4o]
  unfold gMust
  cases ok
  · by_cases h : f = 0
    · simp +contextual -dsimp (disch := omega) only [↓kDown, kUp, ↓goDown, goUp, cr, simprocAttr, un_not, h, u0j, u0v, low_B, u0e]
    · simp +contextual -dsimp (disch := omega) only [↓kDown, kUp, ↓goDown, goUp, cr, simprocAttr, un_not, h, u0j, u0v, low_B, u0e]
  · simp +contextual -dsimp (disch := omega) only [↓kDown, kUp, ↓goDown, goUp, cr, simprocAttr, un_not, u0j, u0v, low_B, u0e]) hc
theorem guK {n : Int} (h0 : 0 ≤ n) (h1 : n < 18446744073709551616) (hc : c < List.length H) : runK c (C u0y [.ptr c 0, .int .u64 n]) (St H c (.cells [accB b, .int .i64 f]) L) = outK c H L wB encU (gPut (putU n.toNat) ⟨b, f⟩) := liftK (fun H hc => by
  obtain ⟨n, rfl⟩ := Int.eq_ofNat_of_zero_le h0
  have hp := fun K => uja (H := K) (n := n) (by omega)
  rw [u56, Int.toNat_natCast]
  unfold gPut
  simp +contextual -dsimp (disch := omega) only [↓kDown, kUp, ↓goDown, goUp, cr, simprocAttr, hp, ap_X, u0j, u0v, low_B, u0e]) hc
def gIndex (n : Int) (s : WS) : GR := if 0 ≤ n then gPut (putU n.toNat) (gMust (decide (n < 2147483648)) 4 s) else .ok () (gMust false 4 s)
theorem um1 {n : Int} (h1 : n ≤ 9223372036854775807) (hc : c < List.length H) : runK c (C u1f [.ptr c 0, .int .i64 n]) (St H c (.cells [accB b, .int .i64 f]) L) = outK c H L wB encU (gIndex n ⟨b, f⟩) := liftK (fun H hc => by
  rw [u4d]
  unfold gIndex
  simp +contextual -dsimp (disch := omega) only [↓kDown, kUp, ↓goDown, goUp, cr, simprocAttr, gmustK, guK, u0e]) hc
def codeN (h : Int) : Nat := match find h absI 0 with | some j => 105 + j | none => 0
theorem ufx {h : Int} {v2 : PV} (hh : h < 0) : ∀ (l : List Int) (i : Nat), (∀ k (a : Int), l[k]? = some a → hname (105 + i + k) = a) → i + l.length = 12 → ∀ K : Heap,
    run (u1b (.int .i64 h) v2 (.int .i64 ((105 + i : Nat) : Int))) K = some (.ok (.int .u8 ((match find h l i with | some j => 105 + j | none => 0 : Nat) : Int)) K)
  | [], i, hl, hi, K => by
    have c1 : ¬ ((105 + i : Nat) : Int) ≤ 116 := by simp at hi; omega
    rw [u2z]
    simp only [find]
    simp +contextual -dsimp (disch := omega) only [↓goDown, goUp, cr, simprocAttr, c1]
  | a :: r, i, hl, hi, K => by
    have hi12 : i < 12 := by simp at hi; omega
    have c1 : ((105 + i : Nat) : Int) ≤ 116 := by omega
    have ha : hname (105 + i) = a := by simpa using hl 0 a rfl
    have hab := fun K => upy (H := K) (c := 105 + i)
    rw [ha] at hab
    have e1 : ((105 + i : Nat) : Int) + 1 = ((105 + (i + 1) : Nat) : Int) := by omega
    have ih := ufx (h := h) (v2 := v2) hh r (i + 1) (fun k b hb => by
      have := hl (k + 1) b (by simpa using hb)
      rwa [show 105 + i + (k + 1) = 105 + (i + 1) + k by omega] at this) (by simp at hi; omega)
    rw [u2z]
    unfold find
    by_cases hc : a = h
    · rw [if_pos hc]
      have c2 : (a = h) = True := eq_true hc
      simp +contextual -dsimp (disch := omega) only [↓goDown, goUp, cr, simprocAttr, c1, hab, c2]
    · rw [if_neg hc]
      have c2 : (a = h) = False := eq_false hc
      simp +contextual -dsimp (disch := omega) only [↓goDown, goUp, cr, simprocAttr, c1, hab, c2, e1, ih]
theorem upr {h : Int} (hh : h < 0) {K : Heap} : run (C u1t [.int .i64 h]) K = some (.ok (.int .u8 (codeN h : Int)) K) := by
  have hlp := ufx (h := h) (v2 := .int .u8 0) hh [-11, -9, -8, -7, -6, -5, -3, -1, -10, -4, -2, -12] 0 (fun k a hk => by
    have hk12 : k < 12 := by simpa using (List.getElem?_eq_some_iff.mp hk).1
    have : k = 0 ∨ k = 1 ∨ k = 2 ∨ k = 3 ∨ k = 4 ∨ k = 5 ∨ k = 6 ∨ k = 7 ∨ k = 8 ∨ k = 9 ∨ k = 10 ∨ k = 11 := by omega
    rcases this with rfl | rfl | rfl | rfl | rfl | rfl | rfl | rfl | rfl | rfl | rfl | rfl <;> (simp at hk; subst hk; decide)) rfl K
  have hlp : run (u1b (.int .i64 h) (.int .u8 0) (.int .i64 105)) K = some (.ok (.int .u8 (codeN h : Int)) K) := hlp
  rw [u6r]
  simp +contextual -dsimp (disch := omega) only [↓goDown, goUp, cr, simprocAttr, hlp]
theorem ulu {h : Int} : ∀ (l : List Int) (i j : Nat), find h l i = some j → j < i + l.length
  | [], i, j, e => by cases e
  | a :: r, i, j, e => by
    unfold find at e
    split at e
    · cases e; simp
    · have := ulu r (i + 1) j e
      simp
      omega
theorem uno {h : Int} : codeN h < 256 := by
  unfold codeN
  cases hf : find h absI 0 with
  | none => simp
  | some j =>
    have := ulu _ _ _ hf
    simp [absI] at this ⊢
    omega
def gHeap (h : Int) (s : WS) : GR :=
  if h < 0 then gPut [UInt8.ofNat (codeN h)] (gMust (decide (-12 ≤ h)) 4 s) else gPut (putS h) (gMust (decide (h < 2147483648)) 4 s)
theorem gheapK {h : Int} (h1 : h ≤ 9223372036854775807) (hc : c < List.length H) : runK c (C u1n [.ptr c 0, .int .i64 h]) (St H c (.cells [accB b, .int .i64 f]) L) = outK c H L wB encU (gHeap h ⟨b, f⟩) := liftK (fun H hc => by
  have hcd := fun (hh : h < 0) K => upr (K := K) hh
  have hbs := fun K => u20 (n := codeN h) uno (K := K)
  have hp := fun (hh : ¬ h < 0) K => uoy (H := K) (n := h) (by omega) h1
  rw [u4m]
  unfold gHeap gPut
  by_cases hh : h < 0
  · simp +contextual -dsimp (disch := omega) only [↓kDown, kUp, ↓goDown, goUp, cr, simprocAttr, eq_true hh, hcd hh, hbs, gmustK, ap_X1, u0j, u0v, low_B, u0e]
  · simp +contextual -dsimp (disch := omega) only [↓kDown, kUp, ↓goDown, goUp, cr, simprocAttr, hh, hp hh, gmustK, ap_X, u0j, u0v, low_B, u0e]) hc
end Go.Proofs.YthnmienjiangkaaDoor.Pi.Q
namespace Go.Proofs.YthnmienjiangkaaDoor.Pi.Q
open Go Go.Proofs.YthnmienjiangkaaDoor.Pi
attribute [local congr] ite_congr
variable {c : Nat} {H : Heap} {L : List Box} {b : List UInt8} {f : Int}
theorem uo6 (x : Int) : 0 ≤ IntKind.u8.wrap x ∧ IntKind.u8.wrap x < 256 := by
  rw [up6]
  omega
theorem udd {x : Int} {K : Heap} : bsR true none [.int .u8 (IntKind.u8.wrap x)] K = some (.ok (.slice true false 1 [byt (UInt8.ofNat (IntKind.u8.wrap x).toNat)]) K) := by
  obtain ⟨h0, h1⟩ := uo6 x
  obtain ⟨n, hn⟩ := Int.eq_ofNat_of_zero_le h0
  rw [hn]
  exact u20 (by omega)
def gByte (n : Int) : UInt8 := if n = 7 then 119 else if n = 6 then 120 else UInt8.ofNat (IntKind.u8.wrap (IntKind.i64.wrap (128 - n))).toNat
def gValOk (field : Bool) (v : VT) : Bool := decide (((1 ≤ v.num ∧ v.num ≤ 4) ∨ (field = true ∧ (v.num = 6 ∨ v.num = 7))) ∧ v.nul = false ∧ v.heap = 0)
def gVal (field : Bool) (v : VT) (s : WS) : GR :=
  if v.num = 5 then if v.nul = true then if v.heap < 0 then gHeap v.heap s else (gPut [99] s).bind fun _ s => gHeap v.heap s else (gPut [100] s).bind fun _ s => gHeap v.heap s
  else gPut [gByte v.num] (gMust (gValOk field v) 4 s)
theorem gvalK {field : Bool} {v : VT} (h1 : v.heap ≤ 9223372036854775807) (hc : c < List.length H) : runK c (C u0m [.ptr c 0, .agg [.int .i64 v.num, .bool v.nul, .int .i64 v.heap], .bool field]) (St H c (.cells [accB b, .int .i64 f]) L) = outK c H L wB encU (gVal field v ⟨b, f⟩) := liftK (fun H hc => by
  obtain ⟨num, nul, heap⟩ := v
  simp only at h1 ⊢
  have hh := fun L b f => gheapK (c := c) (H := H) (L := L) (b := b) (f := f) (h := heap) h1 hc
  have hb := fun K => udd (x := IntKind.i64.wrap (128 - num)) (K := K)
  have b99 : ∀ K, bsR true none [.int .u8 99] K = some (.ok (.slice true false 1 [byt 99]) K) := fun K => u20 (n := 99) (by omega)
  have b100 : ∀ K, bsR true none [.int .u8 100] K = some (.ok (.slice true false 1 [byt 100]) K) := fun K => u20 (n := 100) (by omega)
  have b119 : ∀ K, bsR true none [.int .u8 119] K = some (.ok (.slice true false 1 [byt 119]) K) := fun K => u20 (n := 119) (by omega)
  have b120 : ∀ K, bsR true none [.int .u8 120] K = some (.ok (.slice true false 1 [byt 120]) K) := fun K => u20 (n := 120) (by omega)
  rw [u4t]
  unfold gVal
  simp only
  by_cases h5 : num = 5
  · subst h5
    rw [if_pos rfl]
    unfold gPut
    cases nul
    · simp +contextual -dsimp (disch := omega) only [↓kDown, kUp, ↓goDown, goUp, cr, simprocAttr, hh, b100, ap_X1, u1j, u0j, u0v, low_B, u0e]
    · by_cases h0 : heap < 0
      · simp +contextual -dsimp (disch := omega) only [↓kDown, kUp, ↓goDown, goUp, cr, simprocAttr, eq_true h0, hh, b99, ap_X1, u1j, u0j, u0v, low_B, u0e]
      · simp +contextual -dsimp (disch := omega) only [↓kDown, kUp, ↓goDown, goUp, cr, simprocAttr, h0, hh, b99, ap_X1, u1j, u0j, u0v, low_B, u0e]
  · rw [if_neg h5]
    have hyes : (1 ≤ num ∧ num ≤ 4) ∨ (field = true ∧ (num = 6 ∨ num = 7)) → nul = false → gValOk field ⟨num, nul, heap⟩ = (heap == 0) := fun h hn => by
      unfold gValOk
      rw [Bool.eq_iff_iff]
      simp [h, hn]
    have hno : ¬ (((1 ≤ num ∧ num ≤ 4) ∨ (field = true ∧ (num = 6 ∨ num = 7))) ∧ nul = false) → gValOk field ⟨num, nul, heap⟩ = false := fun h => by
      unfold gValOk
      exact decide_eq_false (fun k => h ⟨k.1, k.2.1⟩)
    unfold gPut gByte
    by_cases h6 : num = 6
    · subst h6
      cases nul
      · cases field
        · rw [hno (by simp)]
          simp +contextual -dsimp (disch := omega) only [↓kDown, kUp, ↓goDown, goUp, cr, simprocAttr, un_not, gmustK, b120, ap_X1, u03, u02, u0j, u0v, low_B, u0e]
        · rw [hyes (by simp) rfl]
          simp +contextual -dsimp (disch := omega) only [↓kDown, kUp, ↓goDown, goUp, cr, simprocAttr, un_not, gmustK, b120, ap_X1, u03, u02, u0j, u0v, low_B, u0e]
      · rw [hno (by simp)]
        cases field <;> simp +contextual -dsimp (disch := omega) only [↓kDown, kUp, ↓goDown, goUp, cr, simprocAttr, un_not, gmustK, b120, ap_X1, u03, u02, u0j, u0v, low_B, u0e]
    · by_cases h7 : num = 7
      · subst h7
        cases nul
        · cases field
          · rw [hno (by simp)]
            simp +contextual -dsimp (disch := omega) only [↓kDown, kUp, ↓goDown, goUp, cr, simprocAttr, un_not, gmustK, b119, ap_X1, u03, u02, u0j, u0v, low_B, u0e]
          · rw [hyes (by simp) rfl]
            simp +contextual -dsimp (disch := omega) only [↓kDown, kUp, ↓goDown, goUp, cr, simprocAttr, un_not, gmustK, b119, ap_X1, u03, u02, u0j, u0v, low_B, u0e]
        · rw [hno (by simp)]
          cases field <;> simp +contextual -dsimp (disch := omega) only [↓kDown, kUp, ↓goDown, goUp, cr, simprocAttr, un_not, gmustK, b119, ap_X1, u03, u02, u0j, u0v, low_B, u0e]
      · have c6 : (num == 6) = false := beq_false_of_ne h6
        have c7 : (num == 7) = false := beq_false_of_ne h7
        by_cases a1 : 1 ≤ num
        · by_cases a2 : num ≤ 4
          · have hb2 : ∀ K, bsR true none [.int .u8 (128 - num)] K = some (.ok (.slice true false 1 [byt (UInt8.ofNat (128 - num).toNat)]) K) := fun K => by
              obtain ⟨n, hn⟩ := Int.eq_ofNat_of_zero_le (show 0 ≤ 128 - num by omega)
              rw [hn]
              exact u20 (by omega)
            cases nul
            · rw [hyes (.inl ⟨a1, a2⟩) rfl]
              cases field <;> simp +contextual -dsimp (disch := omega) only [↓kDown, kUp, ↓goDown, goUp, cr, simprocAttr, h5, h6, h7, c6, c7, eq_true a1, eq_true a2, un_not, gmustK, hb2, ap_X1, u03, u02, u0j, u0v, low_B, u0e]
            · rw [hno (by simp)]
              cases field <;> simp +contextual -dsimp (disch := omega) only [↓kDown, kUp, ↓goDown, goUp, cr, simprocAttr, h5, h6, h7, c6, c7, eq_true a1, eq_true a2, un_not, gmustK, hb2, ap_X1, u03, u02, u0j, u0v, low_B, u0e]
          · rw [hno (by simp [h6, h7, a2])]
            cases field <;> simp +contextual -dsimp (disch := omega) only [↓kDown, kUp, ↓goDown, goUp, cr, simprocAttr, h5, h6, h7, c6, c7, eq_true a1, a2, un_not, gmustK, hb, ap_X1, u03, u02, u0j, u0v, low_B, u0e]
        · rw [hno (by simp [h6, h7, a1])]
          cases field <;> simp +contextual -dsimp (disch := omega) only [↓kDown, kUp, ↓goDown, goUp, cr, simprocAttr, h5, h6, h7, c6, c7, a1, un_not, gmustK, hb, ap_X1, u03, u02, u0j, u0v, low_B, u0e]) hc
end Go.Proofs.YthnmienjiangkaaDoor.Pi.Q
namespace Go.Proofs.YthnmienjiangkaaDoor.Pi.Q
open Go Go.Proofs.YthnmienjiangkaaDoor.Pi
attribute [local congr] ite_congr
variable {c : Nat} {H : Heap} {L : List Box} {b : List UInt8} {f : Int}
theorem bs0 {K : Heap} : bsR true none [.int .u8 0] K = some (.ok (.slice true false 1 [byt 0]) K) := u20 (n := 0) (by omega)
theorem bs1 {K : Heap} : bsR true none [.int .u8 1] K = some (.ok (.slice true false 1 [byt 1]) K) := u20 (n := 1) (by omega)
theorem bs4 {K : Heap} : bsR true none [.int .u8 4] K = some (.ok (.slice true false 1 [byt 4]) K) := u20 (n := 4) (by omega)
theorem bs5 {K : Heap} : bsR true none [.int .u8 5] K = some (.ok (.slice true false 1 [byt 5]) K) := u20 (n := 5) (by omega)
def gFlag (t : Bool) (s : WS) : GR := gPut [if t then 1 else 0] s
theorem gflagK {t : Bool} (hc : c < List.length H) : runK c (C u1l [.ptr c 0, .bool t]) (St H c (.cells [accB b, .int .i64 f]) L) = outK c H L wB encU (gFlag t ⟨b, f⟩) := liftK (fun H hc => by
  rw [u4l]
  unfold gFlag gPut
  cases t <;> simp +contextual -dsimp (disch := omega) only [↓kDown, kUp, ↓goDown, goUp, cr, simprocAttr, bs0, bs1, ap_X1, u3t, u0j, u0v, low_B, u0e]) hc
def CT.wide (v : CT) : Prop := (∀ a ∈ v.ps, a.heap ≤ 9223372036854775807) ∧ (∀ a ∈ v.rs, a.heap ≤ 9223372036854775807) ∧ ∀ a ∈ v.fs, a.ty.heap ≤ 9223372036854775807
def ST.wide (v : ST) : Prop := (∀ a ∈ v.sup, a ≤ 9223372036854775807) ∧ v.comp.wide
end Go.Proofs.YthnmienjiangkaaDoor.Pi.Q
