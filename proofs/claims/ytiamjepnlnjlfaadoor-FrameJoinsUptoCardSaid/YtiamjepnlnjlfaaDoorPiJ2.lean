/- What the law rests on, part 3 of 4: a reading of the program's code over told data, and what it comes to. -/
import Derived.Test.YtiamjepnlnjlfaaDoorPiJ1
set_option linter.unusedVariables false
set_option linter.unusedSimpArgs false
set_option maxRecDepth 100000
namespace Go.Proofs.YtiamjepnlnjlfaaDoor.Pi
variable {P : Program} {X : ExtT} {H : Heap}
def XSound (P : Program) (X : ExtT) : Prop :=
  ∀ f m, X f = some m → ∀ args H out, m args H = some out → u2y P f = true ∧ ∀ g w cargs, Inv g H w → ArgsOk g args cargs → Calls P f cargs w (u2n g w out)
theorem uhf (hX : XSound P X) (n : Nat) : CSound P (sem P X n).C ∧ udl P (sem P X n).CD := by
  induction n using Nat.strongRecOn with
  | _ n ih =>
    cases n with
    | zero => exact ⟨fun f args H out h => (u00 (H := H) h).elim, fun rv f args H out h => (u00 (H := H) h).elim⟩
    | succ n =>
      have hn := ih n (Nat.lt_succ_self n)
      refine ⟨fun f args H out h => ?_, fun rv f args H out h => ubx hn.1 h⟩
      have h : (match X f with | some m => m args | none => fnDen P (sem P X n).C (sem P X n).CD (sem P X n).L f args) H = some out := h
      cases hf : X f with
      | some m => rw [hf] at h; exact hX f m hf args H out h
      | none =>
        rw [hf] at h
        exact udz hn.1 hn.2 (fun fn => ugw n (fun m hm => (ih m (by omega)).1) _ _ _ (fun m hm r f a => uif m r f a (by omega)) n (Nat.le_refl n)) h
theorem udo (hX : XSound P X) : CSound P (callW P X) := by
  intro f args H out h
  obtain ⟨n, hn⟩ := ((ua6 P X f args).lim H out).mp h
  exact (uhf hX n).1 f args H out hn
theorem noX : XSound P (fun _ => none) := fun f m h => by cases h
end Go.Proofs.YtiamjepnlnjlfaaDoor.Pi
namespace Go.Proofs.YtiamjepnlnjlfaaDoor.Pi
noncomputable def kAt (c : Ctx) (L : LoopT) : List Nat → List Tmp → Code → K → List Tmp × Code × K
  | [], af, co, k => (af, co, k)
  | 0 :: p, af, .seq a b, k => kAt c L p ((rw b).1 ++ af) a fun
    | .normal, env' => bif c.rc.isNone && joinB a then L af b (keep ((rw b).1 ++ af) env') k else den c L af b env' k
    | e, env' => k e env'
  | _ :: p, af, .seq a b, k => kAt c L p af b k
  | 0 :: p, af, .cond _ a b, k => kAt c L p af a k
  | _ :: p, af, .cond _ a b, k => kAt c L p af b k
  | _ :: p, af, .block id b, k => kAt c L p af b fun
    | .exit i, env' => bif i == id then k .normal env' else k (.exit i) env'
    | e, env' => k e env'
  | _ :: p, af, .loop b, k => kAt c L p (alive af b) b fun
    | .normal, env' => L af (.loop b) (keep (alive af b) env') k
    | e, env' => k e env'
  | _, af, co, k => (af, co, k)
section
variable (P : Program) (X : ExtT)
noncomputable def kOf (f : FuncId) (p : List Nat) : List Tmp × Code × K :=
  match P.funcs[f]? with
  | some fn => match fn.body with
    | some b => kAt (ctxW P X none (protOf fn) (resM P fn)) (loopW P X none (protOf fn) (resM P fn)) p (u5q fn) b fun
      | .exit _, _ => M.fail
      | _, env => resM P fn env
    | none => ([], .skip, fun _ _ => M.fail)
  | none => ([], .skip, fun _ _ => M.fail)
noncomputable def ctxOf (f : FuncId) : Ctx :=
  match P.funcs[f]? with
  | some fn => ctxW P X none (protOf fn) (resM P fn)
  | none => ctxW P X none [] (fun _ => M.fail)
noncomputable def atP (f : FuncId) (p : List Nat) (env : Env) : M PV :=
  loopW P X none (ctxOf P X f).prot (ctxOf P X f).res (kOf P X f p).1 (kOf P X f p).2.1 env (kOf P X f p).2.2
noncomputable def stepP (f : FuncId) (p : List Nat) (env : Env) : M PV :=
  go1 (ctxW P X none (ctxOf P X f).prot (ctxOf P X f).res) (loopW P X none (ctxOf P X f).prot (ctxOf P X f).res) (kOf P X f p).1 (kOf P X f p).2.1 env (kOf P X f p).2.2
theorem u18 (f : FuncId) (p : List Nat) (env : Env) : atP P X f p env = stepP P X f p env := ul1 P X none _ _ _ _ _ _
def mkEnv : Nat → Nat → List (Nat × PV) → Env
  | 0, _, _ => []
  | n + 1, i, (j, v) :: r => bif i == j then v :: mkEnv n (i + 1) r else .undef :: mkEnv n (i + 1) ((j, v) :: r)
  | n + 1, i, [] => .undef :: mkEnv n (i + 1) []
end
end Go.Proofs.YtiamjepnlnjlfaaDoor.Pi
namespace Go.Proofs.YtiamjepnlnjlfaaDoor.Pi
theorem nrfl {γ : Sort _} {a b : γ} (h : a = b) : a = b := h
variable {α β : Type} {H : Heap} {k : IntKind} {a b n m : Int} {x y : PV} {ek : EqK}
@[simp] theorem ucc : strip (.int k n) = .int k n := nrfl rfl
@[simp] theorem u9v {t : Bool} : strip (.bool t) = .bool t := nrfl rfl
@[simp] theorem ubf {s : ByteArray} : strip (.str s) = .str s := nrfl rfl
@[simp] theorem u72 {o z : Bool} {sz : Nat} {xs : List PV} : strip (.slice o z sz xs) = .slice false z sz xs := nrfl rfl
@[simp] theorem ucg {i o : Nat} : strip (.ptr i o) = .ptr i o := nrfl rfl
@[simp] theorem ud7 {cs : List PV} : strip (.agg cs) = .agg cs := nrfl rfl
@[simp] theorem u9d {cs : List PV} : strip (.elem cs) = .elem cs := nrfl rfl
@[simp] theorem ucn : strip .nil = .nil := nrfl rfl
@[simp] theorem u4u : strip .niliface = .niliface := nrfl rfl
@[simp] theorem u8d {t : TypeId} {v : PV} : strip (.iface t v) = .iface t v := nrfl rfl
@[simp] theorem ufg {f : FuncId} {u v : List PV} : strip (.fn f u v) = .fn f u v := nrfl rfl
@[simp] theorem u7o : strip .undef = .undef := nrfl rfl
@[simp] theorem uc1 {vs : List PV} : strip (.tup vs) = .tup (vs.map stripC) := nrfl rfl
@[simp] theorem u9t : stripC (.int k n) = .int k n := nrfl rfl
@[simp] theorem u6u {t : Bool} : stripC (.bool t) = .bool t := nrfl rfl
@[simp] theorem u9l {s : ByteArray} : stripC (.str s) = .str s := nrfl rfl
@[simp] theorem u61 {o z : Bool} {sz : Nat} {xs : List PV} : stripC (.slice o z sz xs) = .slice false z sz xs := nrfl rfl
@[simp] theorem u97 {i o : Nat} : stripC (.ptr i o) = .ptr i o := nrfl rfl
@[simp] theorem u99 {cs : List PV} : stripC (.agg cs) = .agg cs := nrfl rfl
@[simp] theorem u9e : stripC .nil = .nil := nrfl rfl
@[simp] theorem u40 : stripC .niliface = .niliface := nrfl rfl
@[simp] theorem u5v {t : TypeId} {v : PV} : stripC (.iface t v) = .iface t v := nrfl rfl
@[simp] theorem ucs {f : FuncId} {u v : List PV} : stripC (.fn f u v) = .fn f u v := nrfl rfl
@[simp] theorem bi_add : bi .add ek (.int k a) (.int k b) = M.pure (.int k (k.wrap (a + b))) := nrfl (by cases k <;> rfl)
@[simp] theorem bi_sub : bi .sub ek (.int k a) (.int k b) = M.pure (.int k (k.wrap (a - b))) := nrfl (by cases k <;> rfl)
@[simp] theorem bi_mul : bi .mul ek (.int k a) (.int k b) = M.pure (.int k (k.wrap (a * b))) := nrfl (by cases k <;> rfl)
@[simp] theorem bi_eql : bi .eql ek (.int k a) (.int k b) = M.pure (.bool (a == b)) := nrfl (by cases k <;> rfl)
@[simp] theorem bi_neq : bi .neq ek (.int k a) (.int k b) = M.pure (.bool (a != b)) := nrfl (by cases k <;> rfl)
@[simp] theorem bi_lss : bi .lss ek (.int k a) (.int k b) = M.pure (.bool (decide (a < b))) := nrfl (by cases k <;> rfl)
@[simp] theorem bi_leq : bi .leq ek (.int k a) (.int k b) = M.pure (.bool (decide (a ≤ b))) := nrfl (by cases k <;> rfl)
@[simp] theorem bi_gtr : bi .gtr ek (.int k a) (.int k b) = M.pure (.bool (decide (a > b))) := nrfl (by cases k <;> rfl)
@[simp] theorem bi_geq : bi .geq ek (.int k a) (.int k b) = M.pure (.bool (decide (a ≥ b))) := nrfl (by cases k <;> rfl)
@[simp] theorem uhl {s t : ByteArray} : bi .eql ek (.str s) (.str t) = M.pure (.bool (s.toList == t.toList)) := nrfl rfl
@[simp] theorem uhz {s t : ByteArray} : bi .neq ek (.str s) (.str t) = M.pure (.bool (!(s.toList == t.toList))) := nrfl rfl
@[simp] theorem uin {s t : Bool} : bi .eql .bool (.bool s) (.bool t) = M.pure (.bool (s == t)) := nrfl rfl
@[simp] theorem ui6 {s t : Bool} : bi .neq .bool (.bool s) (.bool t) = M.pure (.bool (!(s == t))) := nrfl rfl
@[simp] theorem un_not {t : Bool} : un .not (.bool t) = M.pure (.bool (!t)) := nrfl rfl
@[simp] theorem ubt {o z : Bool} {sz : Nat} {xs : List PV} : lnL (.slice o z sz xs) = M.pure (.int .i64 xs.length) := nrfl rfl
@[simp] theorem ujt {s : ByteArray} : lnS (.str s) = M.pure (.int .i64 s.size) := nrfl rfl
@[simp] theorem mx_int : mx (.int k a) (.int k b) = M.pure (.int k (if b > a then b else a)) := nrfl (by cases k <;> rfl)
@[simp] theorem mn_int : mn (.int k a) (.int k b) = M.pure (.int k (if b < a then b else a)) := nrfl (by cases k <;> rfl)
@[simp] theorem cv_int {o : Bool} {j : IntKind} : cv (.int k) o (.int j n) = M.pure (.int k (k.wrap n)) := nrfl rfl
@[simp] theorem umr {v : PV} {r : List PV} : ex 0 (.tup (v :: r)) = M.pure v := nrfl rfl
@[simp] theorem ums {u v : PV} {r : List PV} : ex 1 (.tup (u :: v :: r)) = M.pure v := nrfl rfl
@[simp] theorem umt {t u v : PV} {r : List PV} : ex 2 (.tup (t :: u :: v :: r)) = M.pure v := nrfl rfl
end Go.Proofs.YtiamjepnlnjlfaaDoor.Pi
namespace Go.Proofs.YtiamjepnlnjlfaaDoor.Pi
variable {P : Program} {X : ExtT}
def gOf (im : Nat → Nat → Option Value) : G := ⟨[], im, fun _ => none⟩
theorem ulp {im : Nat → Nat → Option Value} {w : World} (him : ∀ b o v, im b o = some v → w.cell? ⟨b, o, none⟩ = some v) (hg : GlobOk im) : Inv (gOf im) [] w :=
  ⟨rfl, fun i j b h => by simp [gOf] at h, him, fun b L s h => by simp [gOf] at h, fun id b y h => by simp [gOf] at h, hg⟩
theorem walk_law (hX : XSound P X) {f : FuncId} {args : List PV} {H' : Heap} (h : callW P X f args [] = some (.ok (.bool true) H')) {im : Nat → Nat → Option Value} {w : World} {cargs : Array Value}
    (him : ∀ b o v, im b o = some v → w.cell? ⟨b, o, none⟩ = some v) (ha : ArgsOk (gOf im) args cargs) (hg : GlobOk im) : Calls P f cargs w fun e w' => e = .returned (.bool true) ∧ RowKit.Below w.heap.size w w' := by
  obtain ⟨_, hs⟩ := udo hX f args [] _ h
  refine (hs (gOf im) w cargs (ulp him hg) ha).mono ?_
  rintro e w' ⟨g', hgl, hgr, cv, rfl, hi, hr⟩
  have hv : cv = .bool true := by
    cases hr with
    | one hr => cases hr with
      | pure hr => cases hr with
        | flat hr => cases hr; rfl
  subst hv
  exact ⟨rfl, hgl.os, hgl.tape, hgl.output, hgl.size, fun k hk => (hgl.old k hk rfl (by simp [gOf])).2.2⟩
end Go.Proofs.YtiamjepnlnjlfaaDoor.Pi
namespace Go.Proofs.YtiamjepnlnjlfaaDoor.Pi
variable {α β : Type} {H : Heap} {k j : IntKind} {a b n m : Int} {x y : PV} {ek : EqK}
def resT (v : PV) (m : M PV) : M PV := bif isTup v then M.fail else m
def hget (H : Heap) (id : Nat) : Option Box := H[id]?
def hset (H : Heap) (id : Nat) (b : Box) : Heap := H.set id b
def hadd (H : Heap) (L : List Box) : Heap := H ++ L
def hcut (H : Heap) (n : Nat) : Heap := H.take n
abbrev hlen (H : Heap) : Nat := List.length H
def run (m : M α) (H : Heap) : Option (Out α) := m H
def bindR (r : Option (Out α)) (f : α → M β) : Option (Out β) :=
  match r with
  | none => none
  | some (.ok v H) => run (f v) H
  | some (.pan v H) => some (.pan v H)
def truncR (H : Heap) (r : Option (Out PV)) : Option (Out PV) :=
  match r with
  | none => none
  | some (.ok v H') => some (.ok v (bif v.low H.length then hcut H' H.length else H'))
  | some (.pan v H') => bif v.low H.length then some (.pan v (hcut H' H.length)) else none
noncomputable def nbR (H : Heap) (r : Option (Out α)) (f : α → M β) : Option (Out β) := nb (fun _ => r) f H
@[congr] theorem um0 {r r' : Option (Out α)} {f : α → M β} (h : r = r') : bindR r f = bindR r' f := by rw [h]
@[congr] theorem umq {r r' : Option (Out α)} {f : α → M β} (h : r = r') : nbR H r f = nbR H r' f := by rw [h]
@[congr] theorem umi {c c' : PV} {x y : M α} (h : c = c') : condM c x y = condM c' x y := by rw [h]
@[congr] theorem ull {c c' : Bool} {x : M α} (h : c = c') : guardM c x = guardM c' x := by rw [h]
@[congr] theorem umm {c c' : PV} {x : M PV} (h : c = c') : resT c x = resT c' x := by rw [h]
theorem run_bind {m : M α} {f : α → M β} : run (M.bind m f) H = bindR (run m H) f := nrfl rfl
theorem ufs {f : α → M β} {v : α} {H : Heap} : bindR (some (.ok v H)) f = run (f v) H := nrfl rfl
theorem u9j {f : α → M β} : bindR none f = none := nrfl rfl
theorem ubo {f : α → M β} {v : PV} {H : Heap} : bindR (some (.pan v H)) f = some (.pan v H) := nrfl rfl
theorem ub2 {c : Prop} [Decidable c] {r r' : Option (Out α)} {f : α → M β} : bindR (if c then r else r') f = if c then bindR r f else bindR r' f := by split <;> rfl
theorem run_nb {m : M α} {f : α → M β} : run (nb m f) H = nbR H (run m H) f := nrfl rfl
theorem nbR_ok {f : α → M β} {v : α} : nbR H (some (.ok v H)) f = run (f v) H := by simp [nbR, nb, run]
theorem uig {c : Prop} [Decidable c] {r r' : Option (Out α)} {f : α → M β} : nbR H (if c then r else r') f = if c then nbR H r f else nbR H r' f := by split <;> rfl
theorem u78 {m : M PV} : run (trunc m) H = truncR H (run m H) := nrfl rfl
theorem u95 {c : Prop} [Decidable c] {r r' : Option (Out PV)} : truncR H (if c then r else r') = if c then truncR H r else truncR H r' := by split <;> rfl
theorem u7u : truncR H none = none := nrfl rfl
theorem uce {v : PV} {H' : Heap} : truncR H (some (.ok v H')) = some (.ok v (if v.low H.length = true then hcut H' H.length else H')) := by
  show some (Out.ok v (bif v.low H.length then hcut H' H.length else H')) = _
  cases v.low H.length <;> rfl
theorem u5p {v : PV} {H' : Heap} : truncR H (some (.pan v H')) = if v.low H.length = true then some (.pan v (hcut H' H.length)) else none := by
  show (bif v.low H.length then some (Out.pan v (hcut H' H.length)) else none) = _
  cases v.low H.length <;> rfl
theorem ud2 {c : Bool} {m : M α} : run (guardM c m) H = if c = true then run m H else none := by cases c <;> rfl
theorem ufo {v : PV} {m : M PV} : run (resT v m) H = if isTup v = true then none else run m H := by unfold resT; cases isTup v <;> rfl
theorem ufe {c : Bool} {x y : M α} : run (condM (.bool c) x y) H = if c = true then run x H else run y H := by cases c <;> rfl
theorem uj7 {c : Bool} {m : M PV} : run (gd (.bool c) true m) H = if c = true then run m H else some (.ok (.tup []) H) := by cases c <;> rfl
theorem uhh {c : Bool} {m : M PV} : run (gd (.bool c) false m) H = if c = true then some (.ok (.tup []) H) else run m H := by cases c <;> rfl
theorem u9z : strip (.tup []) = .tup [] := nrfl rfl
theorem uiz {b : Bool} {m : M PV} : run (gd (.tup []) b m) H = some (.ok (.tup []) H) := nrfl rfl
theorem ueo {c : Bool} : run (pick (.bool c) x y) H = if c = true then some (.ok (strip x) H) else some (.ok (strip y) H) := by cases c <;> rfl
theorem run_pure {v : α} : run (M.pure v) H = some (.ok v H) := nrfl rfl
theorem uj8 {v : PV} : run (M.pan v : M α) H = some (.pan v H) := nrfl rfl
theorem ufm : run (M.fail : M α) H = none := nrfl rfl
theorem run_al {cs : List PV} : run (al cs) H = if cs.all isCell = true then some (.ok (.ptr H.length 0) (hadd H [.cells cs])) else none := by unfold run al; cases cs.all isCell <;> rfl
theorem run_bx {n : Nat} {v : PV} : run (bx n v) H = if (v.cells.map stripC).length = n ∧ lowL (H.length + 1) (v.cells.map stripC) = true ∧ v.cells.all isCell = true then some (.ok (.ptr H.length 0) (hadd H [.cells (v.cells.map stripC)])) else none := by
  unfold run bx
  cases h1 : ((v.cells.map stripC).length == n) <;> cases h2 : lowL (H.length + 1) (v.cells.map stripC) <;> cases h3 : v.cells.all isCell <;> simp_all [hadd]
theorem u4t (a b : Nat) : (a == b) = decide (a = b) := by rw [Bool.eq_iff_iff]; simp
def ldB (n : Option Nat) (mv : Bool) (id o : Nat) (H : Heap) : Option Box → Option (Out PV)
  | some (.cells cs) => match n with
      | none => match cs[o]? with
        | some v => bif mv then some (.ok v (hset H id (.cells (cs.set o (stripC v))))) else some (.ok (stripC v) H)
        | none => none
      | some n => bif decide (o + n ≤ cs.length) then some (.ok (.agg (((cs.drop o).take n).map stripC)) H) else none
  | _ => none
theorem run_ld {n : Option Nat} {mv : Bool} {id o : Nat} : run (ld n mv (.ptr id o)) H = ldB n mv id o H (hget H id) := by
  unfold run ld ldB
  rfl
def stB (n : Nat) (mv : Bool) (id o : Nat) (v : PV) (H : Heap) : Option Box → Option (Out PV)
  | some (.cells cs) => bif v.cells.length == n && (decide (o + n ≤ cs.length) && (lowL (id + 1) v.cells && v.cells.all isCell)) then
        some (.ok .undef (hset H id (.cells (fillAt o (bif mv then v.cells else v.cells.map stripC) cs))))
      else none
  | _ => none
theorem run_st {n : Nat} {mv : Bool} {id o : Nat} {v : PV} : run (st n mv (.ptr id o) v) H = stB n mv id o v H (hget H id) := by
  unfold run st stB
  rfl
theorem ug4 {n : Nat} {mv : Bool} {id o : Nat} {cs : List PV} : ldB (some n) mv id o H (some (.cells cs)) = if o + n ≤ cs.length then some (.ok (.agg (((cs.drop o).take n).map stripC)) H) else none := by
  show (bif decide (o + n ≤ cs.length) then some (Out.ok (PV.agg (((cs.drop o).take n).map stripC)) H) else none) = _
  by_cases h : o + n ≤ cs.length <;> simp [h]
def nth : List α → Nat → Option α
  | [], _ => none
  | v :: _, 0 => some v
  | _ :: r, n + 1 => nth r n
theorem uf7 {v : α} {r : List α} : nth (v :: r) 0 = some v := nrfl rfl
theorem ueq {v : α} {r : List α} {n : Nat} : nth (v :: r) (n + 1) = nth r n := nrfl rfl
theorem nth_is : ∀ (l : List α) (n : Nat), l[n]? = nth l n
  | [], _ => rfl
  | _ :: _, 0 => rfl
  | _ :: r, n + 1 => nth_is r n
def ldTR (H : Heap) (id : Nat) (cs : List PV) (o : Nat) : Option PV → Option (Out PV)
  | some v => some (.ok v (hset H id (.cells (cs.set o (stripC v)))))
  | none => none
def ldFR (H : Heap) : Option PV → Option (Out PV)
  | some v => some (.ok (stripC v) H)
  | none => none
theorem uc2 {id : Nat} {cs : List PV} {o : Nat} {v : PV} : ldTR H id cs o (some v) = some (.ok v (hset H id (.cells (cs.set o (stripC v))))) := nrfl rfl
theorem uby {v : PV} : ldFR H (some v) = some (.ok (stripC v) H) := nrfl rfl
theorem ldB_t {id o : Nat} {cs : List PV} : ldB none true id o H (some (.cells cs)) = ldTR H id cs o (nth cs o) := by
  rw [← nth_is]; rfl
theorem ldB_f {id o : Nat} {cs : List PV} : ldB none false id o H (some (.cells cs)) = ldFR H (nth cs o) := by
  rw [← nth_is]; rfl
theorem stB_is {n : Nat} {mv : Bool} {id o : Nat} {v : PV} {cs : List PV} :
    stB n mv id o v H (some (.cells cs)) = if v.cells.length = n ∧ o + n ≤ cs.length ∧ lowL (id + 1) v.cells = true ∧ v.cells.all isCell = true then some (.ok .undef (hset H id (.cells (fillAt o (if mv = true then v.cells else v.cells.map stripC) cs)))) else none := by
  show (bif v.cells.length == n && (decide (o + n ≤ cs.length) && (lowL (id + 1) v.cells && v.cells.all isCell)) then some (Out.ok PV.undef (hset H id (.cells (fillAt o (bif mv then v.cells else v.cells.map stripC) cs)))) else none) = _
  cases hb : v.cells.all isCell <;> cases hc : lowL (id + 1) v.cells <;> by_cases h1 : v.cells.length = n <;> by_cases h2 : o + n ≤ cs.length <;> cases mv <;> simp [h1, h2, u4t (v.cells.length) n]
theorem uf8 {mv : Bool} {cs : List PV} {c : PV} : run (ld none mv (.elem (c :: cs))) H = some (.ok c H) := nrfl rfl
theorem ufn {mv : Bool} {n : Nat} {cs : List PV} : run (ld (some n) mv (.elem cs)) H = if n ≤ cs.length then some (.ok (.agg (cs.take n)) H) else none := by
  show (bif decide (n ≤ cs.length) then M.pure (PV.agg (cs.take n)) else M.fail) H = _
  by_cases h : n ≤ cs.length <;> simp [h, M.pure, M.fail]
theorem uac {L : List Box} (k : Nat) : hget (hadd H L) (H.length + k) = nth L k := by unfold hget hadd; rw [List.getElem?_append_right (Nat.le_add_right _ _), Nat.add_sub_cancel_left, nth_is]
theorem u4c {L : List Box} : hget (hadd H L) H.length = nth L 0 := uac 0
theorem ua9 {L : List Box} {i : Nat} (h : i < H.length) : hget (hadd H L) i = hget H i := List.getElem?_append_left h
theorem uaf {L : List Box} {x : Box} (k : Nat) : hset (hadd H L) (H.length + k) x = hadd H (L.set k x) := by unfold hset hadd; rw [List.set_append_right _ _ (Nat.le_add_right _ _), Nat.add_sub_cancel_left]
theorem u6e {L : List Box} {x : Box} : hset (hadd H L) H.length x = hadd H (L.set 0 x) := uaf 0
theorem uag {L : List Box} {i : Nat} {x : Box} (h : i < H.length) : hset (hadd H L) i x = hadd (hset H i x) L := List.set_append_left _ _ h
theorem ued {i : Nat} {x : Box} (h : i < H.length) : hget (hset H i x) i = some x := by unfold hget hset; rw [List.getElem?_set_self h]
theorem set_set {i : Nat} {x y : Box} : hset (hset H i x) i y = hset H i y := List.set_set _
theorem u2s {L K : List Box} : hadd (hadd H L) K = hadd H (L ++ K) := List.append_assoc _ _ _
theorem ueh {A L : List Box} {n : Nat} (h : n = A.length) : hcut (hadd A L) n = A := by subst h; simp [hcut, hadd]
theorem udy {A : List Box} {n : Nat} (h : n = A.length) : hcut A n = A := by subst h; simp [hcut]
theorem cut0 : hcut H H.length = H := udy rfl
theorem cut1 {i : Nat} {x : Box} : hcut (hset H i x) H.length = hset H i x := udy (by unfold hset; simp)
theorem cut2 {i j : Nat} {x y : Box} : hcut (hset (hset H i x) j y) H.length = hset (hset H i x) j y := udy (by unfold hset; simp)
theorem cutA0 {L : List Box} : hcut (hadd H L) H.length = H := ueh rfl
theorem cutA1 {L : List Box} {i : Nat} {x : Box} : hcut (hadd (hset H i x) L) H.length = hset H i x := ueh (by unfold hset; simp)
theorem cutA2 {L : List Box} {i j : Nat} {x y : Box} : hcut (hadd (hset (hset H i x) j y) L) H.length = hset (hset H i x) j y := ueh (by unfold hset; simp)
theorem udj {L : List Box} : List.length (hadd H L) = H.length + L.length := List.length_append
theorem u59 {i : Nat} {x : Box} : List.length (hset H i x) = H.length := List.length_set
theorem u6s {L : List Box} {i : Nat} {y : Box} (k : Nat) : hget (hadd (hset H i y) L) (H.length + k) = nth L k := by
  have := uac (H := hset H i y) (L := L) k
  rwa [u59] at this
theorem u8l {L : List Box} {i : Nat} {y : Box} : hget (hadd (hset H i y) L) H.length = nth L 0 := u6s 0
theorem u6l {L : List Box} {i : Nat} {x y : Box} (k : Nat) : hset (hadd (hset H i y) L) (H.length + k) x = hadd (hset H i y) (L.set k x) := by
  have := uaf (H := hset H i y) (L := L) (x := x) k
  rwa [u59] at this
theorem u7b {L : List Box} {i : Nat} {x y : Box} : hset (hadd (hset H i y) L) H.length x = hadd (hset H i y) (L.set 0 x) := u6l 0
theorem ua2 {L : List Box} {i j : Nat} {y : Box} (h : i < H.length) : hget (hadd (hset H j y) L) i = hget (hset H j y) i := ua9 (by rw [u59]; exact h)
theorem uae {L : List Box} {i j : Nat} {x y : Box} (h : i < H.length) : hset (hadd (hset H j y) L) i x = hadd (hset (hset H j y) i x) L := uag (by rw [u59]; exact h)
theorem get_lt {i : Nat} {x : Box} (h : hget H i = some x) : i < H.length := (List.getElem?_eq_some_iff.mp h).1
theorem u6h {i : Nat} {x : Box} (h : hget H i = some x) : hset H i x = H := by
  obtain ⟨h1, h2⟩ := List.getElem?_eq_some_iff.mp h
  unfold hset; subst h2; exact List.set_getElem_self h1
theorem w_i64 (h : -9223372036854775808 ≤ n ∧ n ≤ 9223372036854775807) : IntKind.i64.wrap n = n := by rw [IntKind.wrap_i64]; omega
theorem w_u64 (h : 0 ≤ n ∧ n ≤ 18446744073709551615) : IntKind.u64.wrap n = n := by simp only [IntKind.wrap, IntKind.signed, IntKind.bits]; simp; omega
theorem w_u8 (h : 0 ≤ n ∧ n ≤ 255) : IntKind.u8.wrap n = n := by rw [IntKind.wrap_u8]; omega
theorem w_u32 (h : 0 ≤ n ∧ n ≤ 4294967295) : IntKind.u32.wrap n = n := by rw [IntKind.wrap_u32]; omega
theorem w_i32 (h : -2147483648 ≤ n ∧ n ≤ 2147483647) : IntKind.i32.wrap n = n := by rw [IntKind.wrap_i32]; omega
theorem ulz (h : 0 ≤ b) : bi .shl ek (.int k a) (.int j b) = M.pure (.int k (k.wrap (a * 2 ^ shiftN k b))) := by
  have : ¬ b < 0 := by omega
  simp [bi, this]
theorem uj3 (h : 0 ≤ b) : bi .shr ek (.int k a) (.int j b) = M.pure (.int k (a.fdiv (2 ^ shiftN k b))) := by
  have : ¬ b < 0 := by omega
  simp [bi, this]
theorem uhe (h : b ≠ 0) : bi .quo ek (.int k a) (.int k b) = M.pure (.int k (k.wrap (a.tdiv b))) := by
  have h' : (b == 0) = false := by simpa using h
  cases k <;> simp [bi, intOp, h']
theorem uhm (h : b ≠ 0) : bi .rem ek (.int k a) (.int k b) = M.pure (.int k (a.tmod b)) := by
  have h' : (b == 0) = false := by simpa using h
  cases k <;> simp [bi, intOp, h']
theorem uj5 : bi .and ek (.int k a) (.int k b) = M.pure (.int k (k.wrap (BitVec.ofInt k.bits a &&& BitVec.ofInt k.bits b).toNat)) := by cases k <;> rfl
theorem run_or : bi .or ek (.int k a) (.int k b) = M.pure (.int k (k.wrap (BitVec.ofInt k.bits a ||| BitVec.ofInt k.bits b).toNat)) := by cases k <;> rfl
def iaR (H : Heap) : Option PV → Option (Out PV)
  | some x => some (.ok (.elem x.cells) H)
  | none => none
theorem ufy {x : PV} : iaR H (some x) = some (.ok (.elem x.cells) H) := nrfl rfl
theorem uav {o z : Bool} {sz : Nat} {xs : List PV} (h0 : 0 ≤ n) : run (iaS sz (.slice o z sz xs) (.int k n)) H = iaR H xs[n.toNat]? := by
  unfold iaS iaR run
  have h' : decide (0 ≤ n) = true := by simpa using h0
  simp only [h', beq_self_eq_true, Bool.and_self, cond_true, u1u, M.fail, M.pure]
  split <;> rename_i h <;> simp only [h] <;> rfl
theorem run_fa {off id o : Nat} : fa off (.ptr id o) = M.pure (.ptr id (o + off)) := nrfl rfl
theorem uiy {off : Nat} {cs : List PV} : fa off (.elem cs) = M.pure (.elem (cs.drop off)) := nrfl rfl
theorem ug3 {P : Program} {C : CallT} {f : FuncId} {u v args : List PV} : callV P C (.fn f u v) args = C f (u ++ args ++ v) := nrfl rfl
theorem nc_ptr {P : Program} {i o : Nat} : nc P (.ptr i o) = M.pure (.ptr i o) := nrfl rfl
theorem uje {P : Program} {cs : List PV} : nc P (.elem cs) = M.pure (.elem cs) := nrfl rfl
theorem nc_nil {P : Program} : nc P .nil = M.pan (nilDeref P) := nrfl rfl
theorem run_mi {t : TypeId} {v : PV} : run (mi t v) H = if isVal v = true then some (.ok (.iface t (stripC v)) H) else none := by
  unfold run mi
  cases isVal v <;> rfl
theorem run_pn {t : TypeId} {v : PV} : pn (.iface t v) = M.pan (.iface t v) := nrfl rfl
theorem uj0 {o : Bool} : cv (.int k) o (.int j n) = M.pure (.int k (k.wrap n)) := nrfl rfl
theorem uit {v : PV} {r : List PV} : ex 0 (.tup (v :: r)) = M.pure v := nrfl rfl
theorem uie {u v : PV} {r : List PV} : ex 1 (.tup (u :: v :: r)) = M.pure v := nrfl rfl
theorem uix {u v x : PV} {r : List PV} : ex 2 (.tup (u :: v :: x :: r)) = M.pure x := nrfl rfl
theorem ufi {v : PV} {r : List PV} : tupDrop 0 (.tup (v :: r)) = .tup (stripC v :: r) := nrfl rfl
theorem ufk {u v : PV} {r : List PV} : tupDrop 1 (.tup (u :: v :: r)) = .tup (u :: stripC v :: r) := nrfl rfl
theorem ugj {u v x : PV} {r : List PV} : tupDrop 2 (.tup (u :: v :: x :: r)) = .tup (u :: v :: stripC x :: r) := nrfl rfl
section
variable {c d : Bool} {s : ByteArray} {i o : Nat} {cs ds : List PV} {N : Nat}
theorem ubv : isTup (.int k n) = false := nrfl rfl
theorem u91 : isCell (.int k n) = true := nrfl rfl
theorem udb : isVal (.int k n) = true := nrfl rfl
theorem uch : isPtr (.int k n) = false := nrfl rfl
theorem ubl : PV.cells (.int k n) = [(.int k n)] := nrfl rfl
theorem u51 : PV.low N (.int k n) = true := by simp only [PV.low]
theorem u9g : isTup (.bool c) = false := nrfl rfl
theorem u83 : isCell (.bool c) = true := nrfl rfl
theorem u9k : isVal (.bool c) = true := nrfl rfl
theorem u9x : isPtr (.bool c) = false := nrfl rfl
theorem u9f : PV.cells (.bool c) = [(.bool c)] := nrfl rfl
theorem u6k : PV.low N (.bool c) = true := by simp only [PV.low]
theorem ucj : isTup (.str s) = false := nrfl rfl
theorem u9c : isCell (.str s) = true := nrfl rfl
theorem udh : isVal (.str s) = true := nrfl rfl
theorem ubc : isPtr (.str s) = false := nrfl rfl
theorem uc4 : PV.cells (.str s) = [(.str s)] := nrfl rfl
theorem u8h : PV.low N (.str s) = true := by simp only [PV.low]
theorem ucp : isTup .nil = false := nrfl rfl
theorem u8x : isCell .nil = true := nrfl rfl
theorem ubp : isVal .nil = true := nrfl rfl
theorem ubu : isPtr .nil = false := nrfl rfl
theorem ubq : PV.cells .nil = [.nil] := nrfl rfl
theorem uj9 : PV.low N .nil = true := by simp only [PV.low]
theorem udi : isTup (.ptr i o) = false := nrfl rfl
theorem u9w : isCell (.ptr i o) = true := nrfl rfl
theorem ucr : isVal (.ptr i o) = true := nrfl rfl
theorem ubj : isPtr (.ptr i o) = true := nrfl rfl
theorem ubs : PV.cells (.ptr i o) = [(.ptr i o)] := nrfl rfl
theorem ujl : PV.low N (.ptr i o) = decide (i < N) := by simp only [PV.low]
theorem u9b : isTup (.elem cs) = false := nrfl rfl
theorem u8r : isCell (.elem cs) = true := nrfl rfl
theorem u9q : isVal (.elem cs) = true := nrfl rfl
theorem u93 : isPtr (.elem cs) = false := nrfl rfl
theorem u9m : PV.cells (.elem cs) = [(.elem cs)] := nrfl rfl
theorem ufx : PV.low N (.elem cs) = true := by simp only [PV.low]
theorem u8a : isTup (.slice c d i cs) = false := nrfl rfl
theorem u5z : isCell (.slice c d i cs) = true := nrfl rfl
theorem u7z : isVal (.slice c d i cs) = true := nrfl rfl
theorem u7w : isPtr (.slice c d i cs) = false := nrfl rfl
theorem u89 : PV.cells (.slice c d i cs) = [(.slice c d i cs)] := nrfl rfl
theorem u42 : PV.low N (.slice c d i cs) = true := by simp only [PV.low]
theorem ugh : isTup (.fn i cs ds) = false := nrfl rfl
theorem ub6 : isCell (.fn i cs ds) = true := nrfl rfl
theorem ugl : isVal (.fn i cs ds) = true := nrfl rfl
theorem uff : isPtr (.fn i cs ds) = false := nrfl rfl
theorem ufp : PV.cells (.fn i cs ds) = [(.fn i cs ds)] := nrfl rfl
theorem low_fn : PV.low N (.fn i cs ds) = (lowL N cs && lowL N ds) := by simp only [PV.low]
theorem u74 : isTup .nilfn = false := nrfl rfl
theorem u6a : isCell .nilfn = true := nrfl rfl
theorem u7r : isVal .nilfn = true := nrfl rfl
theorem u6v : isPtr .nilfn = false := nrfl rfl
theorem u8f : PV.cells .nilfn = [.nilfn] := nrfl rfl
theorem uay : PV.low N .nilfn = true := by simp only [PV.low]
theorem u87 : isTup (.iface i x) = false := nrfl rfl
theorem u68 : isCell (.iface i x) = true := nrfl rfl
theorem u7i : isVal (.iface i x) = true := nrfl rfl
theorem u8n : isPtr (.iface i x) = false := nrfl rfl
theorem u6w : PV.cells (.iface i x) = [(.iface i x)] := nrfl rfl
theorem u85 : PV.low N (.iface i x) = x.low N := by simp only [PV.low]
theorem u4q : isTup .niliface = false := nrfl rfl
theorem u3w : isCell .niliface = true := nrfl rfl
theorem u4w : isVal .niliface = true := nrfl rfl
theorem u4s : isPtr .niliface = false := nrfl rfl
theorem u4r : PV.cells .niliface = [.niliface] := nrfl rfl
theorem u5x : PV.low N .niliface = true := by simp only [PV.low]
theorem ubh : isTup (.agg cs) = false := nrfl rfl
theorem u8v : isCell (.agg cs) = false := nrfl rfl
theorem uc3 : isVal (.agg cs) = true := nrfl rfl
theorem ucf : isPtr (.agg cs) = false := nrfl rfl
theorem udg : PV.cells (.agg cs) = cs := nrfl rfl
theorem u8c : PV.low N (.agg cs) = lowL N cs := by simp only [PV.low]
theorem ub8 : isTup (.tup cs) = true := nrfl rfl
theorem u9h : isCell (.tup cs) = false := nrfl rfl
theorem ub4 : isVal (.tup cs) = false := nrfl rfl
theorem ud3 : isPtr (.tup cs) = false := nrfl rfl
theorem ucd : PV.cells (.tup cs) = [(.tup cs)] := nrfl rfl
theorem u8e : PV.low N (.tup cs) = lowL N cs := by simp only [PV.low]
theorem u7g : isTup .undef = false := nrfl rfl
theorem u67 : isCell .undef = false := nrfl rfl
theorem u7t : isVal .undef = false := nrfl rfl
theorem u8g : isPtr .undef = false := nrfl rfl
theorem u76 : PV.cells .undef = [.undef] := nrfl rfl
theorem uco : PV.low N .undef = true := by simp only [PV.low]
end
theorem u3p {n : Nat} : lowL n [] = true := by simp only [lowL]
theorem u34 {n : Nat} {v : PV} {r : List PV} : lowL n (v :: r) = (v.low n && lowL n r) := by simp only [lowL]
def bdR (H : Heap) : Option (List PV) → Option (Out PV)
  | some cs => some (.ok (.agg cs) H)
  | none => none
theorem ug1 {cs : List PV} : bdR H (some cs) = some (.ok (.agg cs) H) := nrfl rfl
theorem run_bd {zero : List PV} {parts : List (Nat × Nat × PV)} : run (bd zero parts) H = bdR H (u2h parts zero) := by
  unfold run bd bdR
  cases u2h parts zero <;> rfl
theorem u7x {cs : List PV} : u2h [] cs = some cs := nrfl rfl
theorem u63 {off size : Nat} {v : PV} {r : List (Nat × Nat × PV)} {cs : List PV} : u2h ((off, size, v) :: r) cs = if v.cells.length = size ∧ off + size ≤ cs.length ∧ v.cells.all isCell = true then u2h r (fillAt off (v.cells.map stripC) cs) else none := by
  show (bif v.cells.length == size && (decide (off + size ≤ cs.length) && v.cells.all isCell) then u2h r (fillAt off (v.cells.map stripC) cs) else none) = _
  cases hb : v.cells.all isCell <;> by_cases h1 : v.cells.length = size <;> by_cases h2 : off + size ≤ cs.length <;> simp [h1, h2, hb, u4t (v.cells.length) size]
theorem ud4 {off : Nat} {vs cs : List PV} : fillAt off vs cs = cs.take off ++ vs ++ cs.drop (off + vs.length) := nrfl rfl
def bsR (own : Bool) (a : Option Nat) (vs : List PV) (H : Heap) : Option (Out PV) := if vs.all (u19 a) = true then some (.ok (.slice own false (a.getD 1) vs) H) else none
theorem run_bs {own : Bool} {a : Option Nat} {vs : List PV} : run (bs own a vs) H = bsR own a (vs.map stripC) H := by
  unfold run bs bsR
  cases ((vs.map stripC).all (u19 a)) <;> rfl
def noPanR : Option (Out PV) → Option (Out PV)
  | some (.ok v H) => some (.ok v H)
  | _ => none
theorem u7n {m : M PV} : run (noPan m) H = noPanR (run m H) := by
  unfold run noPan noPanR
  cases m H with
  | none => rfl
  | some q => cases q <;> rfl
theorem ucb {v : PV} {H : Heap} : noPanR (some (.ok v H)) = some (.ok v H) := nrfl rfl
theorem u90 {v : PV} {H : Heap} : noPanR (some (.pan v H)) = none := nrfl rfl
theorem u7e : noPanR none = none := nrfl rfl
theorem u9a {c : Prop} [Decidable c] {r r' : Option (Out PV)} : noPanR (if c then r else r') = if c then noPanR r else noPanR r' := by split <;> rfl
noncomputable def chkR (r r' : Option (Out α)) (x : M β) (H : Heap) : Option (Out β) := run (chk (fun _ => r) (fun _ => r') x) H
@[congr] theorem uml {r r' s s' : Option (Out α)} {x : M β} (h : r = s) (h' : r' = s') : chkR r r' x H = chkR s s' x H := by rw [h, h']
theorem ui8 {m m' : M α} {x : M β} : run (chk m m' x) H = chkR (run m H) (run m' H) x H := nrfl rfl
theorem ue4 {a : α} {K : Heap} {x : M β} : chkR (some (.ok a K)) (some (.ok a K)) x H = run x H := by
  simp [chkR, run, chk]
theorem uhr {i o : Nat} : tld (.ptr i o) = .ld i := nrfl rfl
theorem ujw {i o : Nat} : tst (.ptr i o) = .st i := nrfl rfl
theorem ues {cs : List PV} : tld (.elem cs) = .no := nrfl rfl
theorem ugk {x : Touch} : clash .no x = false := nrfl rfl
theorem ucu {y : Touch} : clash y .no = false := by cases y <;> rfl
theorem u73 {i j : Nat} : clash (.ld i) (.ld j) = false := nrfl rfl
theorem u6x {i j : Nat} : clash (.ld j) (.st i) = (i == j) := nrfl rfl
theorem u6t {i j : Nat} : clash (.st j) (.ld i) = (i == j) := nrfl rfl
theorem u8i {i j : Nat} : clash (.st j) (.st i) = (i == j) := nrfl rfl
theorem u65 {i : Nat} : clash .any (.ld i) = false := nrfl rfl
theorem u5u {i : Nat} : clash (.ld i) .any = false := nrfl rfl
theorem u5b : clash .any .any = false := nrfl rfl
def defR (CD : Option PV → CallT) (f : FuncId) (args : List PV) (res : M PV) : Option (Out PV) → Option (Out PV)
  | none => none
  | some (.ok _ H) => bindR (run (CD none f args) H) (fun _ => res)
  | some (.pan v H) => bindR (run (CD (some v) f args) H) (fun r => match r with | .tup [] => res | _ => M.fail)
theorem uba {CD : Option PV → CallT} {f : FuncId} {u v args : List PV} {rest res : M PV} : run (deferM CD (.fn f u v) args rest res) H = defR CD f (u ++ args ++ v) res (run rest H) := by
  unfold run deferM defR
  dsimp only
  cases rest H with
  | none => rfl
  | some q => cases q <;> rfl
@[congr] theorem umo {CD : Option PV → CallT} {f : FuncId} {args : List PV} {res : M PV} {r r' : Option (Out PV)} (h : r = r') : defR CD f args res r = defR CD f args res r' := by rw [h]
theorem uc5 {CD : Option PV → CallT} {f : FuncId} {args : List PV} {res : M PV} : defR CD f args res none = none := nrfl rfl
theorem uim {CD : Option PV → CallT} {f : FuncId} {args : List PV} {res : M PV} {v : PV} : defR CD f args res (some (.ok v H)) = bindR (run (CD none f args) H) (fun _ => res) := nrfl rfl
theorem uen {CD : Option PV → CallT} {f : FuncId} {args : List PV} {res : M PV} {v : PV} : defR CD f args res (some (.pan v H)) = bindR (run (CD (some v) f args) H) (fun r => match r with | .tup [] => res | _ => M.fail) := nrfl rfl
theorem ufz {CD : Option PV → CallT} {f : FuncId} {args : List PV} {res : M PV} {c : Prop} [Decidable c] {r r' : Option (Out PV)} : defR CD f args res (if c then r else r') = if c then defR CD f args res r else defR CD f args res r' := by split <;> rfl
end Go.Proofs.YtiamjepnlnjlfaaDoor.Pi
namespace Go.Proofs.YtiamjepnlnjlfaaDoor.Pi
def byt (c : UInt8) : PV := .int .u8 c.toNat
abbrev bytes (b : List UInt8) : List PV := b.map byt
abbrev BS (z : Bool) (b : List UInt8) : PV := .slice false z 1 (bytes b)
theorem umg {b : List UInt8} {k : Nat} (h : k < b.length) : (bytes b)[k]? = some (byt b[k]) := by simp [bytes, h]
theorem umc (n s x : Nat) (hn : n < 2 ^ s) : n ||| (x * 2 ^ s) = n + x * 2 ^ s := by
  rw [Nat.or_comm, Nat.mul_comm, ← Nat.two_pow_add_eq_or_of_lt hn, Nat.add_comm]
theorem bv_or {w a b : Nat} (ha : a < 2 ^ w) (hb : b < 2 ^ w) : (BitVec.ofInt w (a : Int) ||| BitVec.ofInt w (b : Int)).toNat = a ||| b := by
  rw [BitVec.toNat_or, BitVec.ofInt_natCast, BitVec.ofInt_natCast, BitVec.toNat_ofNat, BitVec.toNat_ofNat, Nat.mod_eq_of_lt ha, Nat.mod_eq_of_lt hb]
theorem bv_and {w a b : Nat} (ha : a < 2 ^ w) (hb : b < 2 ^ w) : (BitVec.ofInt w (a : Int) &&& BitVec.ofInt w (b : Int)).toNat = a &&& b := by
  rw [BitVec.toNat_and, BitVec.ofInt_natCast, BitVec.ofInt_natCast, BitVec.toNat_ofNat, BitVec.toNat_ofNat, Nat.mod_eq_of_lt ha, Nat.mod_eq_of_lt hb]
theorem uh5 {s : Nat} (h : s ≤ 64) : shiftN .u64 (s : Int) = s := by unfold shiftN; rw [Int.toNat_natCast]; exact Nat.min_eq_left h
theorem ulk {n x s : Nat} (hs : s ≤ 63) (hn : n < 2 ^ s) (hx : x * 2 ^ s < 2 ^ 64) :
    IntKind.u64.wrap ((BitVec.ofInt IntKind.u64.bits (n : Int) ||| BitVec.ofInt IntKind.u64.bits (IntKind.u64.wrap ((x : Int) * 2 ^ shiftN .u64 (s : Int)))).toNat : Int) = ((n + x * 2 ^ s : Nat) : Int) ∧ n + x * 2 ^ s < 2 ^ 64 := by
  have e1 : ((x : Int) * 2 ^ shiftN .u64 (s : Int)) = ((x * 2 ^ s : Nat) : Int) := by rw [uh5 (by omega)]; simp
  have hle : 2 ^ s ≤ 2 ^ 63 := Nat.pow_le_pow_right (by omega) hs
  have hlt : n + x * 2 ^ s < 2 ^ 64 := by
    have e : (2 : Nat) ^ 64 = 2 ^ (64 - s) * 2 ^ s := by rw [← Nat.pow_add, Nat.sub_add_cancel (by omega)]
    rw [e] at hx ⊢
    have hx2 : x < 2 ^ (64 - s) := Nat.lt_of_mul_lt_mul_right hx
    have : (x + 1) * 2 ^ s ≤ 2 ^ (64 - s) * 2 ^ s := Nat.mul_le_mul_right _ hx2
    rw [Nat.add_mul] at this
    omega
  refine ⟨?_, hlt⟩
  rw [e1, w_u64 (n := ((x * 2 ^ s : Nat) : Int)) (by omega), show IntKind.u64.bits = 64 from rfl, bv_or (w := 64) (by omega) hx, umc n s x hn]
  exact w_u64 (by omega)
inductive Rs (α : Type) where
  | ok (v : α) (p : Nat)
  | err (p e : Nat)
end Go.Proofs.YtiamjepnlnjlfaaDoor.Pi
namespace Go.Proofs.YtiamjepnlnjlfaaDoor.Pi
def okS (h c : Nat) : Prop := c < 128 ∧ (c / 2 ^ (h - 1) = 0 ∨ c / 2 ^ (h - 1) = 2 ^ (8 - h) - 1)
instance (h c : Nat) : Decidable (okS h c) := by unfold okS; infer_instance
end Go.Proofs.YtiamjepnlnjlfaaDoor.Pi
namespace Go.Proofs.YtiamjepnlnjlfaaDoor.Pi
open Go.ChangeShapes Go.WideShapes
def imOf (w : World) (b o : Nat) : Option Value := w.cell? ⟨b, o, none⟩
theorem imOf_ok (w : World) : ∀ b o v, imOf w b o = some v → w.cell? ⟨b, o, none⟩ = some v := fun _ _ _ h => h
end Go.Proofs.YtiamjepnlnjlfaaDoor.Pi
namespace Go.Proofs.YtiamjepnlnjlfaaDoor.Pi
theorem goDown : type_of% (And.intro (And.intro (And.intro (And.intro (And.intro @run_bind @ufs) (And.intro @u9j @ubo)) (And.intro (And.intro @ub2
    @run_nb) (And.intro @nbR_ok @uig))) (And.intro (And.intro (And.intro @u78 @u95) (And.intro @u7u @uce)) (And.intro
    (And.intro @u5p @ud2) (And.intro @ufo (And.intro @ufe @uj7))))) (And.intro (And.intro (And.intro (And.intro @uhh
    @uiz) (And.intro @run_pure @uj8)) (And.intro (And.intro @ufm @u7n) (And.intro @ucb @u90))) (And.intro (And.intro
    (And.intro @u7e @u9a) (And.intro @ui8 @ue4)) (And.intro (And.intro @uba @uc5) (And.intro @uim (And.intro
    @uen @ufz)))))) := (And.intro (And.intro (And.intro (And.intro (And.intro @run_bind @ufs) (And.intro @u9j @ubo)) (And.intro (And.intro @ub2
    @run_nb) (And.intro @nbR_ok @uig))) (And.intro (And.intro (And.intro @u78 @u95) (And.intro @u7u @uce)) (And.intro
    (And.intro @u5p @ud2) (And.intro @ufo (And.intro @ufe @uj7))))) (And.intro (And.intro (And.intro (And.intro @uhh
    @uiz) (And.intro @run_pure @uj8)) (And.intro (And.intro @ufm @u7n) (And.intro @ucb @u90))) (And.intro (And.intro
    (And.intro @u7e @u9a) (And.intro @ui8 @ue4)) (And.intro (And.intro @uba @uc5) (And.intro @uim (And.intro
    @uen @ufz))))))
theorem goUp : type_of% (And.intro (And.intro (And.intro (And.intro (And.intro (And.intro (And.intro @u9z (And.intro @ueo @run_al)) (And.intro (And.intro @run_bx
    @run_ld) (And.intro @run_st @ug4))) (And.intro (And.intro (And.intro @uf7 @ueq) (And.intro @uc2 @uby)) (And.intro
    (And.intro @ldB_t @ldB_f) (And.intro @stB_is @uf8)))) (And.intro (And.intro (And.intro @ufn (And.intro @uac @u4c)) (And.intro
    (And.intro @ua9 @uaf) (And.intro @u6e @uag))) (And.intro (And.intro (And.intro @ued @set_set) (And.intro @u2s @cut0))
    (And.intro (And.intro @cut1 @cut2) (And.intro @cutA0 @cutA1))))) (And.intro (And.intro (And.intro (And.intro @cutA2 (And.intro @udj @u59))
    (And.intro (And.intro @w_i64 @w_u64) (And.intro @w_u8 @w_u32))) (And.intro (And.intro (And.intro @w_i32 @uhe) (And.intro @uhm @ufy))
    (And.intro (And.intro @uav @run_fa) (And.intro @uiy @ug3)))) (And.intro (And.intro (And.intro @nc_ptr (And.intro @uje @nc_nil))
    (And.intro (And.intro @run_mi @run_pn) (And.intro @uj0 @uit))) (And.intro (And.intro (And.intro @uie @uix) (And.intro @ufi
    @ufk)) (And.intro (And.intro @ugj @ubv) (And.intro @u91 @udb)))))) (And.intro (And.intro (And.intro (And.intro
    (And.intro @uch (And.intro @ubl @u51)) (And.intro (And.intro @u9g @u83) (And.intro @u9k @u9x)))
    (And.intro (And.intro (And.intro @u9f @u6k) (And.intro @ucj @u9c)) (And.intro (And.intro @udh @ubc) (And.intro
    @uc4 @u8h)))) (And.intro (And.intro (And.intro @ucp (And.intro @u8x @ubp)) (And.intro (And.intro @ubu
    @ubq) (And.intro @uj9 @udi))) (And.intro (And.intro (And.intro @u9w @ucr) (And.intro @ubj @ubs))
    (And.intro (And.intro @ujl @u9b) (And.intro @u8r @u9q))))) (And.intro (And.intro (And.intro (And.intro @u93
    (And.intro @u9m @ufx)) (And.intro (And.intro @u8a @u5z) (And.intro @u7z @u7w))) (And.intro (And.intro
    (And.intro @u89 @u42) (And.intro @ugh @ub6)) (And.intro (And.intro @ugl @uff) (And.intro @ufp @low_fn))))
    (And.intro (And.intro (And.intro @u74 (And.intro @u6a @u7r)) (And.intro (And.intro @u6v @u8f) (And.intro
    @uay @u87))) (And.intro (And.intro (And.intro @u68 @u7i) (And.intro @u8n @u6w)) (And.intro
    (And.intro @u85 @u4q) (And.intro @u3w @u4w))))))) (And.intro (And.intro (And.intro (And.intro (And.intro
    (And.intro @u4s (And.intro @u4r @u5x)) (And.intro (And.intro @ubh @u8v) (And.intro @uc3
    @ucf))) (And.intro (And.intro (And.intro @udg @u8c) (And.intro @ub8 @u9h)) (And.intro (And.intro @ub4
    @ud3) (And.intro @ucd @u8e)))) (And.intro (And.intro (And.intro @u7g (And.intro @u67 @u7t)) (And.intro
    (And.intro @u8g @u76) (And.intro @uco @u3p))) (And.intro (And.intro (And.intro @u34 @ug1) (And.intro @run_bd
    @u7x)) (And.intro (And.intro @u63 @ud4) (And.intro @run_bs @uhr))))) (And.intro (And.intro (And.intro (And.intro
    @ujw (And.intro @ues @ugk)) (And.intro (And.intro @ucu @u73) (And.intro @u6x @u6t))) (And.intro
    (And.intro (And.intro @u8i @u65) (And.intro @u5u @u5b)) (And.intro (And.intro @ucc @u9v)
    (And.intro @ubf @u72)))) (And.intro (And.intro (And.intro @ucg (And.intro @ud7 @u9d)) (And.intro (And.intro
    @ucn @u4u) (And.intro @u8d @ufg))) (And.intro (And.intro (And.intro @u7o @uc1) (And.intro @u9t
    @u6u)) (And.intro (And.intro @u9l @u61) (And.intro @u97 @u99)))))) (And.intro (And.intro (And.intro
    (And.intro (And.intro @u9e (And.intro @u40 @u5v)) (And.intro (And.intro @ucs @bi_add) (And.intro @bi_sub
    @bi_mul))) (And.intro (And.intro (And.intro @bi_eql @bi_neq) (And.intro @bi_lss @bi_leq)) (And.intro (And.intro @bi_gtr @bi_geq) (And.intro
    @uhl @uhz)))) (And.intro (And.intro (And.intro @uin (And.intro @ui6 @un_not)) (And.intro (And.intro @ubt @ujt) (And.intro
    @mx_int @mn_int))) (And.intro (And.intro (And.intro @cv_int @Bool.and_true) (And.intro @Bool.true_and @Bool.and_self)) (And.intro (And.intro
    @Bool.not_true @Bool.not_false) (And.intro @Bool.and_false @Bool.false_and))))) (And.intro (And.intro (And.intro (And.intro @Bool.or_true
    (And.intro @Bool.or_false @Bool.true_or)) (And.intro (And.intro @Bool.false_or @Bool.false_eq_true) (And.intro @decide_eq_true_eq @and_self)))
    (And.intro (And.intro (And.intro @and_true @true_and) (And.intro @not_true_eq_false @not_false_eq_true)) (And.intro (And.intro @Nat.zero_add
    @Nat.add_zero) (And.intro @Nat.le_refl @Nat.lt_add_one)))) (And.intro (And.intro (And.intro (And.intro @Nat.lt_irrefl @and_false) (And.intro
    @false_and @Bool.not_eq_true')) (And.intro (And.intro @Bool.not_eq_eq_eq_not @decide_eq_false_iff_not) (And.intro @Bool.and_eq_true
    @Bool.or_eq_true))) (And.intro (And.intro (And.intro @decide_true @decide_false) (And.intro @u6s @u8l)) (And.intro (And.intro @u6l
    @u7b) (And.intro @ua2 @uae)))))))) := (And.intro (And.intro (And.intro (And.intro (And.intro (And.intro (And.intro @u9z (And.intro @ueo @run_al)) (And.intro (And.intro @run_bx
    @run_ld) (And.intro @run_st @ug4))) (And.intro (And.intro (And.intro @uf7 @ueq) (And.intro @uc2 @uby)) (And.intro
    (And.intro @ldB_t @ldB_f) (And.intro @stB_is @uf8)))) (And.intro (And.intro (And.intro @ufn (And.intro @uac @u4c)) (And.intro
    (And.intro @ua9 @uaf) (And.intro @u6e @uag))) (And.intro (And.intro (And.intro @ued @set_set) (And.intro @u2s @cut0))
    (And.intro (And.intro @cut1 @cut2) (And.intro @cutA0 @cutA1))))) (And.intro (And.intro (And.intro (And.intro @cutA2 (And.intro @udj @u59))
    (And.intro (And.intro @w_i64 @w_u64) (And.intro @w_u8 @w_u32))) (And.intro (And.intro (And.intro @w_i32 @uhe) (And.intro @uhm @ufy))
    (And.intro (And.intro @uav @run_fa) (And.intro @uiy @ug3)))) (And.intro (And.intro (And.intro @nc_ptr (And.intro @uje @nc_nil))
    (And.intro (And.intro @run_mi @run_pn) (And.intro @uj0 @uit))) (And.intro (And.intro (And.intro @uie @uix) (And.intro @ufi
    @ufk)) (And.intro (And.intro @ugj @ubv) (And.intro @u91 @udb)))))) (And.intro (And.intro (And.intro (And.intro
    (And.intro @uch (And.intro @ubl @u51)) (And.intro (And.intro @u9g @u83) (And.intro @u9k @u9x)))
    (And.intro (And.intro (And.intro @u9f @u6k) (And.intro @ucj @u9c)) (And.intro (And.intro @udh @ubc) (And.intro
    @uc4 @u8h)))) (And.intro (And.intro (And.intro @ucp (And.intro @u8x @ubp)) (And.intro (And.intro @ubu
    @ubq) (And.intro @uj9 @udi))) (And.intro (And.intro (And.intro @u9w @ucr) (And.intro @ubj @ubs))
    (And.intro (And.intro @ujl @u9b) (And.intro @u8r @u9q))))) (And.intro (And.intro (And.intro (And.intro @u93
    (And.intro @u9m @ufx)) (And.intro (And.intro @u8a @u5z) (And.intro @u7z @u7w))) (And.intro (And.intro
    (And.intro @u89 @u42) (And.intro @ugh @ub6)) (And.intro (And.intro @ugl @uff) (And.intro @ufp @low_fn))))
    (And.intro (And.intro (And.intro @u74 (And.intro @u6a @u7r)) (And.intro (And.intro @u6v @u8f) (And.intro
    @uay @u87))) (And.intro (And.intro (And.intro @u68 @u7i) (And.intro @u8n @u6w)) (And.intro
    (And.intro @u85 @u4q) (And.intro @u3w @u4w))))))) (And.intro (And.intro (And.intro (And.intro (And.intro
    (And.intro @u4s (And.intro @u4r @u5x)) (And.intro (And.intro @ubh @u8v) (And.intro @uc3
    @ucf))) (And.intro (And.intro (And.intro @udg @u8c) (And.intro @ub8 @u9h)) (And.intro (And.intro @ub4
    @ud3) (And.intro @ucd @u8e)))) (And.intro (And.intro (And.intro @u7g (And.intro @u67 @u7t)) (And.intro
    (And.intro @u8g @u76) (And.intro @uco @u3p))) (And.intro (And.intro (And.intro @u34 @ug1) (And.intro @run_bd
    @u7x)) (And.intro (And.intro @u63 @ud4) (And.intro @run_bs @uhr))))) (And.intro (And.intro (And.intro (And.intro
    @ujw (And.intro @ues @ugk)) (And.intro (And.intro @ucu @u73) (And.intro @u6x @u6t))) (And.intro
    (And.intro (And.intro @u8i @u65) (And.intro @u5u @u5b)) (And.intro (And.intro @ucc @u9v)
    (And.intro @ubf @u72)))) (And.intro (And.intro (And.intro @ucg (And.intro @ud7 @u9d)) (And.intro (And.intro
    @ucn @u4u) (And.intro @u8d @ufg))) (And.intro (And.intro (And.intro @u7o @uc1) (And.intro @u9t
    @u6u)) (And.intro (And.intro @u9l @u61) (And.intro @u97 @u99)))))) (And.intro (And.intro (And.intro
    (And.intro (And.intro @u9e (And.intro @u40 @u5v)) (And.intro (And.intro @ucs @bi_add) (And.intro @bi_sub
    @bi_mul))) (And.intro (And.intro (And.intro @bi_eql @bi_neq) (And.intro @bi_lss @bi_leq)) (And.intro (And.intro @bi_gtr @bi_geq) (And.intro
    @uhl @uhz)))) (And.intro (And.intro (And.intro @uin (And.intro @ui6 @un_not)) (And.intro (And.intro @ubt @ujt) (And.intro
    @mx_int @mn_int))) (And.intro (And.intro (And.intro @cv_int @Bool.and_true) (And.intro @Bool.true_and @Bool.and_self)) (And.intro (And.intro
    @Bool.not_true @Bool.not_false) (And.intro @Bool.and_false @Bool.false_and))))) (And.intro (And.intro (And.intro (And.intro @Bool.or_true
    (And.intro @Bool.or_false @Bool.true_or)) (And.intro (And.intro @Bool.false_or @Bool.false_eq_true) (And.intro @decide_eq_true_eq @and_self)))
    (And.intro (And.intro (And.intro @and_true @true_and) (And.intro @not_true_eq_false @not_false_eq_true)) (And.intro (And.intro @Nat.zero_add
    @Nat.add_zero) (And.intro @Nat.le_refl @Nat.lt_add_one)))) (And.intro (And.intro (And.intro (And.intro @Nat.lt_irrefl @and_false) (And.intro
    @false_and @Bool.not_eq_true')) (And.intro (And.intro @Bool.not_eq_eq_eq_not @decide_eq_false_iff_not) (And.intro @Bool.and_eq_true
    @Bool.or_eq_true))) (And.intro (And.intro (And.intro @decide_true @decide_false) (And.intro @u6s @u8l)) (And.intro (And.intro @u6l
    @u7b) (And.intro @ua2 @uae))))))))
theorem cr : (∀ {α : Type} {a : α} {l : List α}, (a :: l).length = l.length + 1) ∧ (∀ {α : Type}, ([] : List α).length = 0) ∧ (∀ {α β : Type} {f : α → β} {a : α} {l : List α}, (a :: l).map f = f a :: l.map f) ∧ (∀ {α β : Type} {f : α → β}, [].map f = []) ∧ (∀ {α : Type} {a : α} {l : List α} {i : Nat}, (a :: l).take (i + 1) = a :: l.take i) ∧ (∀ {α : Type} {l : List α}, l.take 0 = []) ∧ (∀ {α : Type} {a : α} {l : List α} {i : Nat}, (a :: l).drop (i + 1) = l.drop i) ∧ (∀ {α : Type} {l : List α}, l.drop 0 = l) ∧ (∀ {α : Type} {i : Nat}, ([] : List α).drop i = []) ∧ (∀ {α : Type} {i : Nat}, ([] : List α).take i = []) ∧ (∀ {α : Type} {a : α} {l k : List α}, a :: l ++ k = a :: (l ++ k)) ∧ (∀ {α : Type} {l : List α}, [] ++ l = l) ∧ (∀ {α : Type} {l : List α}, l ++ [] = l) ∧ (∀ {α : Type} {a b : α} {l : List α}, (a :: l).set 0 b = b :: l) ∧ (∀ {α : Type} {a b : α} {l : List α} {i : Nat}, (a :: l).set (i + 1) b = a :: l.set i b) ∧ (∀ {α : Type} {f : α → Bool} {a : α} {l : List α}, (a :: l).all f = (f a && l.all f)) ∧ (∀ {α : Type} {f : α → Bool}, [].all f = true) ∧ (∀ {a b : Int}, a ≥ b ↔ b ≤ a) ∧ (∀ {a b : Nat}, a ≥ b ↔ b ≤ a) ∧ (∀ {a b : Int}, a > b ↔ b < a) ∧ (∀ {a b : Nat}, a > b ↔ b < a) ∧ (∀ {α : Type} [BEq α] [ReflBEq α] {a : α}, (a == a) = true) ∧ (∀ {α : Type} [BEq α] [LawfulBEq α] {a b : α}, (a == b) = true ↔ a = b) ∧ (∀ {α : Type} [BEq α] [LawfulBEq α] {a b : α}, (a != b) = true ↔ a ≠ b) ∧ (∀ {α : Type} {a b : α}, (a ≠ b) = ¬ a = b) ∧ (∀ {α : Type} {p : Prop} [Decidable p] {x y : α}, (if ¬ p then x else y) = if p then y else x) ∧ (∀ {α : Type} {p : Prop} [Decidable p] {x : α}, (if p then x else x) = x) ∧ (∀ {α : Type} {a b : α}, (some a).getD b = a) ∧ (∀ {α : Type} {b : α}, (none : Option α).getD b = b) :=
  ⟨List.length_cons, List.length_nil, List.map_cons, List.map_nil, List.take_succ_cons, List.take_zero, List.drop_succ_cons, List.drop_zero, List.drop_nil, List.take_nil, List.cons_append, (List.nil_append _), (List.append_nil _), List.set_cons_zero, List.set_cons_succ, List.all_cons, List.all_nil, Iff.rfl, Iff.rfl, Iff.rfl, Iff.rfl, (beq_self_eq_true _), beq_iff_eq, bne_iff_ne, (ne_eq _ _), (ite_not _ _ _), (ite_self _), Option.getD_some, Option.getD_none⟩
end Go.Proofs.YtiamjepnlnjlfaaDoor.Pi
namespace Go.Proofs.YtiamjepnlnjlfaaDoor.Pi
variable {α β σ : Type} {c : Nat} {H : Heap}
def St (H : Heap) (c : Nat) (bx : Box) (L : List Box) : Heap := hadd (hset H c bx) L
def killR (c : Nat) : Option (Out α) → Option (Out α)
  | some (.pan v H) => some (.pan v (hset H c .dead))
  | r => r
def runK (c : Nat) (m : M α) (H : Heap) : Option (Out α) := killR c (run m H)
def bindK (c : Nat) (r : Option (Out α)) (f : α → M β) : Option (Out β) :=
  match r with
  | none => none
  | some (.ok v H) => runK c (f v) H
  | some (.pan v H) => some (.pan v H)
inductive Res (σ α : Type) where
  | ok (v : α) (s : σ)
  | err (t : TypeId) (l : List Int)
  | no
def fltP (t : TypeId) (l : List Int) : PV := .iface t (.agg (l.map (PV.int .i64)))
theorem uhi {t : TypeId} {l : List Int} : fltP t l = .iface t (.agg (l.map (PV.int .i64))) := nrfl rfl
theorem ubd {n : Nat} : ∀ l : List Int, lowL n (l.map (PV.int .i64)) = true
  | [] => u3p
  | a :: r => by rw [List.map_cons, u34, u51, ubd r]; rfl
theorem ua8 {t : TypeId} {l : List Int} {n : Nat} : (fltP t l).low n = true := by
  unfold fltP
  rw [u85, u8c]
  exact ubd l
def Res.bind {σ τ α β : Type} (r : Res σ α) (g : α → σ → Res τ β) : Res τ β :=
  match r with
  | .ok v s => g v s
  | .err t l => .err t l
  | .no => .no
def elimK {σ α γ : Type} (c : Nat) (H : Heap) (L : List Box) (r : Res σ α) (g : α → σ → Option (Out γ)) : Option (Out γ) :=
  match r with
  | .ok v s => g v s
  | .err t l => some (.pan (fltP t l) (St H c .dead L))
  | .no => none
def outK (c : Nat) (H : Heap) (L : List Box) (bx : σ → Box) (enc : α → PV) (r : Res σ α) : Option (Out PV) := elimK c H L r fun v s => some (.ok (enc v) (St H c (bx s) L))
def outS (c : Nat) (H : Heap) (L : List Box) (bx : σ → Box) (enc : α → PV) (r : α × σ) : Option (Out PV) := some (.ok (enc r.1) (St H c (bx r.2) L))
@[congr] theorem ume {r r' : Option (Out α)} {f : α → M β} (h : r = r') : bindK c r f = bindK c r' f := by rw [h]
@[congr] theorem um8 {σ α γ : Type} {L L' : List Box} {r r' : Res σ α} {g g' : α → σ → Option (Out γ)} (h : r = r') (hL : L = L') (hg : ∀ v s, r' = .ok v s → g v s = g' v s) : elimK c H L r g = elimK c H L' r' g' := by
  subst h hL
  cases r with
  | ok v s => exact hg v s rfl
  | err t l => rfl
  | no => rfl
theorem ui7 {L : List Box} {bx : σ → Box} {enc : α → PV} {r : Res σ α} : outK c H L bx enc r = elimK c H L r fun v s => some (.ok (enc v) (St H c (bx s) L)) := nrfl rfl
theorem ujq {L : List Box} {bx : σ → Box} {enc : α → PV} {v : α} {s : σ} : outK c H L bx enc (.ok v s) = some (.ok (enc v) (St H c (bx s) L)) := nrfl rfl
theorem ufq {L : List Box} {bx : σ → Box} {enc : α → PV} {t : TypeId} {l : List Int} : outK c H L bx enc (Res.err t l : Res σ α) = some (.pan (fltP t l) (St H c .dead L)) := nrfl rfl
theorem ujm {L : List Box} {bx : σ → Box} {enc : α → PV} : outK c H L bx enc (Res.no : Res σ α) = none := nrfl rfl
theorem ug7 {γ : Type} {L : List Box} {g : α → σ → Option (Out γ)} : elimK c H L (Res.no : Res σ α) g = none := nrfl rfl
theorem udf {τ : Type} {β : Type} {L : List Box} {bx : σ → Box} {enc : α → PV} {r : Res τ β} {g : β → τ → Res σ α} : outK c H L bx enc (r.bind g) = elimK c H L r fun v s => outK c H L bx enc (g v s) := by cases r <;> rfl
theorem ugi {L : List Box} {bx : σ → Box} {enc : α → PV} {p : Prop} [Decidable p] {r r' : Res σ α} : outK c H L bx enc (if p then r else r') = if p then outK c H L bx enc r else outK c H L bx enc r' := by split <;> rfl
theorem uev {γ : Type} {L : List Box} {v : α} {s : σ} {g : α → σ → Option (Out γ)} : elimK c H L (.ok v s) g = g v s := nrfl rfl
theorem ub9 {γ : Type} {L : List Box} {t : TypeId} {l : List Int} {g : α → σ → Option (Out γ)} : elimK c H L (Res.err t l : Res σ α) g = some (.pan (fltP t l) (St H c .dead L)) := nrfl rfl
theorem ud0 {γ : Type} {L : List Box} {p : Prop} [Decidable p] {r r' : Res σ α} {g : α → σ → Option (Out γ)} : elimK c H L (if p then r else r') g = if p then elimK c H L r g else elimK c H L r' g := by split <;> rfl
theorem u8u {γ τ β : Type} {L : List Box} {r : Res τ β} {f : β → τ → Res σ α} {g : α → σ → Option (Out γ)} : elimK c H L (r.bind f) g = elimK c H L r fun v s => elimK c H L (f v s) g := by cases r <;> rfl
theorem uer {v : α} : killR c (some (.ok v H)) = some (.ok v H) := nrfl rfl
theorem u9i : killR c (none : Option (Out α)) = none := nrfl rfl
theorem u7a {v : PV} : killR c (some (.pan v H) : Option (Out α)) = some (.pan v (hset H c .dead)) := nrfl rfl
theorem uaz {p : Prop} [Decidable p] {r r' : Option (Out α)} : killR c (if p then r else r') = if p then killR c r else killR c r' := by split <;> rfl
theorem udc {m : M α} {f : α → M β} : runK c (M.bind m f) H = bindK c (runK c m H) f := by
  unfold runK
  rw [run_bind]
  cases run m H with
  | none => rfl
  | some q => cases q <;> rfl
theorem ufb {f : α → M β} {v : α} : bindK c (some (.ok v H)) f = runK c (f v) H := nrfl rfl
theorem u9r {f : α → M β} : bindK c none f = none := nrfl rfl
theorem ub3 {f : α → M β} {v : PV} : bindK c (some (.pan v H)) f = some (.pan v H) := nrfl rfl
theorem ubb {p : Prop} [Decidable p] {r r' : Option (Out α)} {f : α → M β} : bindK c (if p then r else r') f = if p then bindK c r f else bindK c r' f := by split <;> rfl
theorem u8w {L : List Box} {r : Res σ α} {g : α → σ → Option (Out PV)} {f : PV → M β} : bindK c (elimK c H L r g) f = elimK c H L r fun v s => bindK c (g v s) f := by cases r <;> rfl
noncomputable def nbK (c : Nat) (H : Heap) (r : Option (Out α)) (f : α → M β) : Option (Out β) := killR c (nbR H r f)
@[congr] theorem ump {r r' : Option (Out α)} {f : α → M β} (h : r = r') : nbK c H r f = nbK c H r' f := by rw [h]
theorem uk0 {m : M α} {f : α → M β} : runK c (nb m f) H = nbK c H (runK c m H) f := by
  unfold nbK runK nbR run nb killR
  dsimp only
  cases m H with
  | none => rfl
  | some q => cases q <;> rfl
theorem nbK_ok {f : α → M β} {v : α} : nbK c H (some (.ok v H)) f = runK c (f v) H := by
  unfold nbK
  rw [nbR_ok]
  rfl
theorem ug2 {f : α → M β} : nbK c H none f = none := by
  unfold nbK nbR nb
  rfl
theorem ujx {p : Prop} [Decidable p] {r r' : Option (Out α)} {f : α → M β} : nbK c H (if p then r else r') f = if p then nbK c H r f else nbK c H r' f := by split <;> rfl
theorem ugx {m : M PV} (hc : c < List.length H) : runK c (trunc m) H = truncR H (runK c m H) := by
  unfold runK
  rw [u78]
  cases run m H with
  | none => rfl
  | some q => cases q with
    | ok v K => rfl
    | pan v K =>
      show killR c (bif v.low H.length then some (Out.pan v (hcut K H.length)) else none) = (bif v.low H.length then some (Out.pan v (hcut (hset K c .dead) H.length)) else none)
      cases v.low H.length with
      | false => rfl
      | true =>
        simp only [cond_true, u7a, Option.some.injEq, Out.pan.injEq, true_and]
        unfold hset hcut
        rw [List.take_set]
theorem u9p {p : Bool} {m : M α} : runK c (guardM p m) H = if p = true then runK c m H else none := by cases p <;> rfl
theorem udd {v : PV} {m : M PV} : runK c (resT v m) H = if isTup v = true then none else runK c m H := by unfold resT; cases isTup v <;> rfl
theorem uc7 {p : Bool} {x y : M α} : runK c (condM (.bool p) x y) H = if p = true then runK c x H else runK c y H := by cases p <;> rfl
theorem ufa {p : Bool} {m : M PV} : runK c (gd (.bool p) true m) H = if p = true then runK c m H else some (.ok (.tup []) H) := by cases p <;> rfl
theorem uf2 {p : Bool} {m : M PV} : runK c (gd (.bool p) false m) H = if p = true then some (.ok (.tup []) H) else runK c m H := by cases p <;> rfl
theorem ufj {b : Bool} {m : M PV} : runK c (gd (.tup []) b m) H = some (.ok (.tup []) H) := nrfl rfl
theorem ub0 {v : α} : runK c (M.pure v) H = some (.ok v H) := nrfl rfl
theorem ugb {v : PV} : runK c (M.pan v : M α) H = some (.pan v (hset H c .dead)) := nrfl rfl
theorem ubi : runK c (M.fail : M α) H = none := nrfl rfl
theorem u96 {m : M PV} : runK c (noPan m) H = noPanR (run m H) := by
  unfold runK
  rw [u7n]
  cases run m H with
  | none => rfl
  | some q => cases q <;> rfl
noncomputable def chkK (c : Nat) (r r' : Option (Out α)) (x : M β) (H : Heap) : Option (Out β) := killR c (chkR r r' x H)
@[congr] theorem umn {r r' s s' : Option (Out α)} {x : M β} (h : r = s) (h' : r' = s') : chkK c r r' x H = chkK c s s' x H := by rw [h, h']
theorem uet {m m' : M α} {x : M β} : runK c (chk m m' x) H = chkK c (run m H) (run m' H) x H := nrfl rfl
theorem uih {a : α} {K : Heap} {x : M β} : chkK c (some (.ok a K)) (some (.ok a K)) x H = runK c x H := by
  unfold chkK
  rw [ue4]
  rfl
theorem ubg {r : Option (Out α)} {x : M β} : chkK c none r x H = none := by
  unfold chkK chkR run chk
  rfl
theorem uf0 {p : Prop} [Decidable p] {r r' s : Option (Out α)} {x : M β} : chkK c (if p then r else r') s x H = if p then chkK c r s x H else chkK c r' s x H := by split <;> rfl
theorem ub7 {r : Option (Out α)} {x : M β} : chkR none r x H = none := by
  unfold chkR run chk
  rfl
theorem uf5 {p : Prop} [Decidable p] {r r' s : Option (Out α)} {x : M β} : chkR (if p then r else r') s x H = if p then chkR r s x H else chkR r' s x H := by split <;> rfl
section
variable {n : Nat} {id o : Nat} {x y v i : PV} {cs : List PV} {m : Option Nat} {mv b : Bool} {L : List Box}
theorem ui3 : runK c (al cs) H = killR c (run (al cs) H) := nrfl rfl
theorem uis : runK c (bx n v) H = killR c (run (bx n v) H) := nrfl rfl
theorem uiw : runK c (ld m mv v) H = killR c (run (ld m mv v) H) := nrfl rfl
theorem uhk : runK c (st n mv x v) H = killR c (run (st n mv x v) H) := nrfl rfl
theorem ugd : runK c (iaS n x i) H = killR c (run (iaS n x i) H) := nrfl rfl
theorem uem {len : Nat} : runK c (ixA len n m x i) H = killR c (run (ixA len n m x i) H) := nrfl rfl
theorem uc0 : runK c (pick v x y) H = killR c (run (pick v x y) H) := nrfl rfl
theorem uj2 {t : TypeId} : runK c (mi t v) H = killR c (run (mi t v) H) := nrfl rfl
theorem ujv {t : FuncId} {l l' : List PV} : runK c (mf t l l') H = killR c (run (mf t l l') H) := nrfl rfl
theorem uhg {z : List PV} {ps : List (Nat × Nat × PV)} : runK c (bd z ps) H = killR c (run (bd z ps) H) := nrfl rfl
theorem ujz {l : List PV} : runK c (bs b m l) H = killR c (run (bs b m l) H) := nrfl rfl
theorem uiq {k : Nat} : runK c (ap b n k x y) H = killR c (run (ap b n k x y) H) := nrfl rfl
theorem uid {k : Nat} : runK c (mk b n k x y) H = killR c (run (mk b n k x y) H) := nrfl rfl
theorem uel : runK c (lnS x) H = killR c (run (lnS x) H) := nrfl rfl
theorem ufc : runK c (lnL x) H = killR c (run (lnL x) H) := nrfl rfl
theorem ufh : runK c (ixS x i) H = killR c (run (ixS x i) H) := nrfl rfl
theorem ufw {lo hi : Option PV} : runK c (slS x lo hi) H = killR c (run (slS x lo hi) H) := nrfl rfl
theorem uf6 {lo hi : Option PV} : runK c (slL n x lo hi) H = killR c (run (slL n x lo hi) H) := nrfl rfl
theorem ujh {k : Cv} : runK c (cv k b x) H = killR c (run (cv k b x) H) := nrfl rfl
theorem uh8 : runK c (ex n x) H = killR c (run (ex n x) H) := nrfl rfl
theorem uj4 {op : BinOp} {ek : EqK} : runK c (bi op ek x y) H = killR c (run (bi op ek x y) H) := nrfl rfl
theorem len_St {x : Box} : List.length (St H c x L) = List.length H + List.length L := by unfold St; rw [udj, u59]
theorem get_St {x : Box} (hc : c < List.length H) : hget (St H c x L) c = some x := by unfold St; rw [ua2 hc, ued hc]
theorem uiv {x : Box} (k : Nat) : hget (St H c x L) (List.length H + k) = nth L k := u6s k
theorem ug8 {x : Box} : hget (St H c x L) (List.length H) = nth L 0 := u8l
theorem set_St {x y : Box} (hc : c < List.length H) : hset (St H c x L) c y = St H c y L := by unfold St; rw [uae hc, set_set]
theorem uk1 {x y : Box} (k : Nat) : hset (St H c x L) (List.length H + k) y = St H c x (L.set k y) := u6l k
theorem uez {x y : Box} : hset (St H c x L) (List.length H) y = St H c x (L.set 0 y) := u7b
theorem add_St {x : Box} {K : List Box} : hadd (St H c x L) K = St H c x (L ++ K) := u2s
theorem cut_St {x : Box} : hcut (St H c x L) (List.length H) = St H c x [] := by
  unfold St
  rw [cutA1]
  exact (List.append_nil _).symm
theorem u8p {r : Res σ α} {bx : Box} {g : α → σ → Option (Out PV)} : truncR (St H c bx []) (elimK c H L r g) = elimK c H [] r fun v s => truncR (St H c bx []) (g v s) := by
  cases r with
  | ok v s => rfl
  | err t l =>
    show truncR (St H c bx []) (some (Out.pan (fltP t l) (St H c .dead L))) = some (Out.pan (fltP t l) (St H c .dead []))
    rw [u5p, if_pos ua8, len_St, List.length_nil, Nat.add_zero, cut_St]
  | no => rfl
theorem u7m {m : M PV} {x : Box} (hc : c < List.length H) : runK c (trunc m) (St H c x L) = truncR (St H c x L) (runK c m (St H c x L)) := ugx (by rw [len_St]; omega)
theorem ui4 {bx : σ → Box} {enc : α → PV} {v : α} {s : σ} : outS c H L bx enc (v, s) = some (.ok (enc v) (St H c (bx s) L)) := nrfl rfl
theorem ujf {bx : σ → Box} {enc : α → PV} {r : α × σ} {f : PV → M β} : bindR (outS c H L bx enc r) f = run (f (enc r.1)) (St H c (bx r.2) L) := nrfl rfl
end
end Go.Proofs.YtiamjepnlnjlfaaDoor.Pi
namespace Go.Proofs.YtiamjepnlnjlfaaDoor.Pi
theorem kDown : type_of% (And.intro (And.intro (And.intro (And.intro (And.intro @ujq @ufq) (And.intro @ujm (And.intro @ug7 @udf))) (And.intro
    (And.intro @ugi @uev) (And.intro @ub9 (And.intro @ud0 @u8u)))) (And.intro (And.intro (And.intro @uer @u9i)
    (And.intro @u7a (And.intro @uaz @udc))) (And.intro (And.intro @ufb (And.intro @u9r @ub3)) (And.intro @ubb
    (And.intro @u8w @u8p))))) (And.intro (And.intro (And.intro (And.intro @uk0 @nbK_ok) (And.intro @ug2 (And.intro @ujx
    @u7m))) (And.intro (And.intro @u9p (And.intro @udd @uc7)) (And.intro @ufa (And.intro @uf2 @ufj))))
    (And.intro (And.intro (And.intro @ub0 @ugb) (And.intro @ubi (And.intro @u96 @uet))) (And.intro (And.intro @uih
    (And.intro @ubg @uf0)) (And.intro @ub7 (And.intro @uf5 @ujf)))))) := (And.intro (And.intro (And.intro (And.intro (And.intro @ujq @ufq) (And.intro @ujm (And.intro @ug7 @udf))) (And.intro
    (And.intro @ugi @uev) (And.intro @ub9 (And.intro @ud0 @u8u)))) (And.intro (And.intro (And.intro @uer @u9i)
    (And.intro @u7a (And.intro @uaz @udc))) (And.intro (And.intro @ufb (And.intro @u9r @ub3)) (And.intro @ubb
    (And.intro @u8w @u8p))))) (And.intro (And.intro (And.intro (And.intro @uk0 @nbK_ok) (And.intro @ug2 (And.intro @ujx
    @u7m))) (And.intro (And.intro @u9p (And.intro @udd @uc7)) (And.intro @ufa (And.intro @uf2 @ufj))))
    (And.intro (And.intro (And.intro @ub0 @ugb) (And.intro @ubi (And.intro @u96 @uet))) (And.intro (And.intro @uih
    (And.intro @ubg @uf0)) (And.intro @ub7 (And.intro @uf5 @ujf))))))
theorem kUp : type_of% (And.intro (And.intro (And.intro (And.intro (And.intro @ui7 @ui4) (And.intro @uhi @ua8)) (And.intro (And.intro @ui3 @uis)
    (And.intro @uiw @uhk))) (And.intro (And.intro (And.intro @ugd @uem) (And.intro @uc0 @uj2)) (And.intro (And.intro
    @ujv @uhg) (And.intro @ujz (And.intro @uiq @uid))))) (And.intro (And.intro (And.intro (And.intro @uel @ufc)
    (And.intro @ufh @ufw)) (And.intro (And.intro @uf6 @ujh) (And.intro @uh8 @uj4))) (And.intro (And.intro (And.intro @len_St
    @get_St) (And.intro @uiv @ug8)) (And.intro (And.intro @set_St @uk1) (And.intro @uez (And.intro @add_St @cut_St)))))) := (And.intro (And.intro (And.intro (And.intro (And.intro @ui7 @ui4) (And.intro @uhi @ua8)) (And.intro (And.intro @ui3 @uis)
    (And.intro @uiw @uhk))) (And.intro (And.intro (And.intro @ugd @uem) (And.intro @uc0 @uj2)) (And.intro (And.intro
    @ujv @uhg) (And.intro @ujz (And.intro @uiq @uid))))) (And.intro (And.intro (And.intro (And.intro @uel @ufc)
    (And.intro @ufh @ufw)) (And.intro (And.intro @uf6 @ujh) (And.intro @uh8 @uj4))) (And.intro (And.intro (And.intro @len_St
    @get_St) (And.intro @uiv @ug8)) (And.intro (And.intro @set_St @uk1) (And.intro @uez (And.intro @add_St @cut_St))))))
end Go.Proofs.YtiamjepnlnjlfaaDoor.Pi
namespace Go.Proofs.YtiamjepnlnjlfaaDoor.Pi.Q
open Go Go.Proofs.YtiamjepnlnjlfaaDoor.Pi
noncomputable abbrev P : Program := Tryd.prog
noncomputable abbrev X : ExtT := fun _ => none
noncomputable abbrev C := callW P X
noncomputable abbrev CD := callDW P X
abbrev u1k : FuncId := 3
abbrev u2r : FuncId := 9
abbrev u14 : FuncId := 10
abbrev u0p : FuncId := 11
abbrev u3b : FuncId := 12
abbrev u1s : FuncId := 13
abbrev u2p : FuncId := 14
abbrev u1c : FuncId := 15
abbrev u1m : FuncId := 16
abbrev u1y : FuncId := 17
abbrev u12 : FuncId := 18
abbrev u1d : FuncId := 26
abbrev u31 : FuncId := 29
abbrev u1w : FuncId := 30
abbrev u3n : FuncId := 31
abbrev u3i : FuncId := 32
abbrev u2a : FuncId := 33
abbrev u1e : FuncId := 34
abbrev u3l : FuncId := 35
abbrev u2o : FuncId := 36
abbrev u21 : FuncId := 45
abbrev u1g : FuncId := 46
abbrev u0h : FuncId := 49
abbrev u07 : FuncId := 55
end Go.Proofs.YtiamjepnlnjlfaaDoor.Pi.Q
namespace Go.Proofs.YtiamjepnlnjlfaaDoor.Pi.Q
open Go Go.Proofs.YtiamjepnlnjlfaaDoor.Pi
theorem u39 (a0 a1 a2 : PV) : C u1k [a0, a1, a2] =
 trunc (M.bind (C u2r [(strip (strip a0))]) fun t17_0 =>
 M.bind (ex 0 t17_0) fun t18_1 =>
 M.bind (ex 1 (tupDrop 0 t17_0)) fun t19_2 =>
 M.bind (C u14 [(strip (strip a0))]) fun t22_3 =>
 M.bind (ex 0 t22_3) fun t23_4 =>
 M.bind (ex 1 (tupDrop 0 t22_3)) fun t24_5 =>
 M.bind (bi .neq .none (strip t19_2) (strip t24_5)) fun t27_6 =>
 M.bind (gd (strip t27_6) false (M.pure (strip t18_1))) fun t29_7 =>
 M.bind (gd (strip t27_6) false (M.pure (strip t23_4))) fun t30_8 =>
 M.bind (gd (strip t27_6) false (C u0p [(strip t29_7), (strip t30_8)])) fun t31_9 =>
 M.bind (gd (strip t27_6) false (un .not t31_9)) fun t32_10 =>
 M.bind (pick (strip t27_6) (.bool true) t32_10) fun t33_11 =>
 M.bind (gd (strip t33_11) false (M.pure (strip a1))) fun t35_12 =>
 M.bind (gd (strip t33_11) false (C u3b [(strip t35_12)])) fun t36_13 =>
 M.bind (gd (strip t33_11) false (M.pure (strip a1))) fun t37_14 =>
 M.bind (gd (strip t33_11) false (C u1s [(strip t37_14)])) fun t38_15 =>
 M.bind (gd (strip t33_11) false (bi .neq .none t36_13 t38_15)) fun t39_16 =>
 M.bind (pick (strip t33_11) (.bool true) t39_16) fun t40_17 =>
 condM t40_17
 (M.pure (.bool false))
 (M.bind (C u2p [(strip (strip a0)), (strip (strip a1))]) fun t44_18 =>
 M.bind (ex 0 t44_18) fun t45_19 =>
 M.bind (ex 1 (tupDrop 0 t44_18)) fun t46_20 =>
 M.bind (al [(.int .i64 0), (.str ⟨#[]⟩), (.slice false true 0 []), (.int .i64 0)]) fun t11_21 =>
 M.bind (st 4 true t11_21 t45_19) fun _ =>
 M.bind (C u1c [(strip (strip a0)), (strip (strip a1))]) fun t50_23 =>
 M.bind (ex 0 t50_23) fun t51_24 =>
 M.bind (ex 1 (tupDrop 0 t50_23)) fun t52_25 =>
 M.bind (al [(.int .i64 0), (.str ⟨#[]⟩), (.slice false true 0 []), (.int .i64 0)]) fun t13_26 =>
 M.bind (st 4 true t13_26 t51_24) fun _ =>
 M.bind (bi .neq .bool (strip t46_20) (strip t52_25)) fun t55_28 =>
 M.bind (gd (strip t55_28) false (fa 0 t11_21)) fun t57_29 =>
 M.bind (gd (strip t55_28) false (ld none false t57_29)) fun t58_30 =>
 M.bind (gd (strip t55_28) false (fa 0 t13_26)) fun t59_31 =>
 M.bind (gd (strip t55_28) false (ld none false t59_31)) fun t60_32 =>
 M.bind (gd (strip t55_28) false (bi .neq .none t58_30 t60_32)) fun t61_33 =>
 M.bind (pick (strip t55_28) (.bool true) t61_33) fun t62_34 =>
 M.bind (gd (strip t62_34) false (fa 1 t11_21)) fun t64_35 =>
 M.bind (gd (strip t62_34) false (ld none false t64_35)) fun t65_36 =>
 M.bind (gd (strip t62_34) false (fa 1 t13_26)) fun t66_37 =>
 M.bind (gd (strip t62_34) false (ld none false t66_37)) fun t67_38 =>
 M.bind (gd (strip t62_34) false (bi .neq .none t65_36 t67_38)) fun t68_39 =>
 M.bind (pick (strip t62_34) (.bool true) t68_39) fun t69_40 =>
 M.bind (gd (strip t69_40) false (fa 3 t11_21)) fun t71_41 =>
 M.bind (gd (strip t69_40) false (ld none false t71_41)) fun t72_42 =>
 M.bind (gd (strip t69_40) false (fa 3 t13_26)) fun t73_43 =>
 M.bind (gd (strip t69_40) false (ld none false t73_43)) fun t74_44 =>
 M.bind (gd (strip t69_40) false (bi .neq .none t72_42 t74_44)) fun t75_45 =>
 M.bind (pick (strip t69_40) (.bool true) t75_45) fun t76_46 =>
 M.bind (gd (strip t76_46) false (fa 2 t11_21)) fun t78_47 =>
 M.bind (gd (strip t76_46) false (ld none false t78_47)) fun t79_48 =>
 M.bind (gd (strip t76_46) false (fa 2 t13_26)) fun t80_49 =>
 M.bind (gd (strip t76_46) false (ld none false t80_49)) fun t81_50 =>
 M.bind (gd (strip t76_46) false (C u0p [(strip t79_48), (strip t81_50)])) fun t82_51 =>
 M.bind (gd (strip t76_46) false (un .not t82_51)) fun t83_52 =>
 M.bind (pick (strip t76_46) (.bool true) t83_52) fun t84_53 =>
 condM t84_53
 (M.pure (.bool false))
 (M.bind (C u1y [(strip (strip a0)), (strip (strip a2))]) fun t87_54 =>
 M.bind (C u12 [(strip (strip a0)), (strip (strip a2))]) fun t90_55 =>
 M.bind (C u1m [(strip t87_54), (strip t90_55), (.bool true)]) fun t91_56 =>
 resT t91_56 (M.pure t91_56)))) := by
 rw [C, u0z _ _ rfl]; kernel_rfl
noncomputable def u11 (v2 v3 v5 v6 v15 v16 v17 : PV) : M PV := atP P X u2r [1, 1, 1, 1, 0, 1, 0] (mkEnv 84 0 [(2, v2), (3, v3), (5, v5), (6, v6), (15, v15), (16, v16), (17, v17)])
noncomputable def u0k (v2 v3 v5 v6 v8 v9 v10 v15 v16 v17 : PV) : M PV := atP P X u2r [1, 1, 1, 1, 0, 1, 0, 0, 1, 1, 0, 0, 1, 1, 1, 1] (mkEnv 84 0 [(2, v2), (3, v3), (5, v5), (6, v6), (8, v8), (9, v9), (10, v10), (15, v15), (16, v16), (17, v17)])
theorem u2j (v2 v3 v5 v6 v15 v16 v17 : PV) : u11 v2 v3 v5 v6 v15 v16 v17 =
 M.bind (bi .lss .none v17 v16) fun t18_0 =>
 condM t18_0
 (M.bind (iaS 4 v15 v17) fun t19_1 =>
 M.bind (ld (some 4) true t19_1) fun t20_2 =>
 M.bind (al [(.int .i64 0), (.str ⟨#[]⟩), (.slice false true 0 []), (.int .i64 0)]) fun t8_3 =>
 M.bind (st 4 true t8_3 t20_2) fun _ =>
 M.bind (fa 0 t8_3) fun t21_5 =>
 M.bind (ld none false t21_5) fun t22_6 =>
 M.bind (C u3b [(strip t22_6)]) fun t23_7 =>
 M.bind (bi .lss .none (strip t23_7) (.int .i64 0)) fun t26_8 =>
 M.bind (gd (strip t26_8) false (M.pure (strip t23_7))) fun t28_9 =>
 M.bind (gd (strip t26_8) false (bi .gtr .none t28_9 (.int .i64 0))) fun t29_10 =>
 M.bind (gd (strip t26_8) false (M.pure (strip t29_10))) fun t30_11 =>
 M.bind (gd t30_11 true (fa 1 t8_3)) fun t31_12 =>
 M.bind (gd t30_11 true (ld none false t31_12)) fun t32_13 =>
 M.bind (gd t30_11 true (bi .neq .none t32_13 (.str ⟨#[]⟩))) fun t33_14 =>
 M.bind (gd (strip t26_8) false (pick t30_11 t33_14 (.bool false))) fun t34_15 =>
 M.bind (pick (strip t26_8) (.bool true) t34_15) fun t35_16 =>
 condM t35_16
 (M.pure (.tup [(.slice false true 0 []), (.int .i64 4)]))
 (M.bind (bi .gtr .none (strip t23_7) (.int .i64 0)) fun t38_17 =>
 M.bind (gd (strip t38_17) true (M.pure (strip t23_7))) fun t40_18 =>
 M.bind (gd (strip t38_17) true (M.pure (strip v6))) fun t41_19 =>
 M.bind (gd (strip t38_17) true (bi .leq .none t40_18 t41_19)) fun t42_20 =>
 M.bind (pick (strip t38_17) t42_20 (.bool false)) fun t43_21 =>
 condM t43_21
 (M.pure (.tup [(.slice false true 0 []), (.int .i64 20)]))
 (M.bind (bi .eql .none (strip t23_7) (.int .i64 0)) fun t46_22 =>
 condM t46_22
 (M.bind (fa 1 t8_3) fun t48_23 =>
 M.bind (ld none false t48_23) fun t49_24 =>
 M.bind (C u31 [(strip t49_24)]) fun t50_25 =>
 M.bind (ex 0 t50_25) fun t51_26 =>
 M.bind (ex 1 (tupDrop 0 t50_25)) fun t52_27 =>
 M.bind (bi .neq .none (strip t52_27) (.int .i64 0)) fun t54_28 =>
 condM t54_28
 (resT t52_27 (M.pure (.tup [(.slice false true 0 []), t52_27])))
 (u0k v2 v3 v5 v6 t8_3 t23_7 t51_26 v15 v16 v17))
 (u0k v2 v3 v5 v6 t8_3 t23_7 (.slice false true 0 []) v15 v16 v17))))
 (M.bind (lnL (strip v5)) fun t81_29 =>
 M.bind (bi .gtr .none t81_29 (.int .i64 1048576)) fun t82_30 =>
 condM t82_30
 (M.pure (.tup [(.slice false true 0 []), (.int .i64 2)]))
 (resT v5 (M.pure (.tup [v5, (.int .i64 0)])))) :=
 (u18 P X _ _ _).trans (by kernel_rfl)
theorem u2k (v2 v3 v5 v6 v8 v9 v10 v15 v16 v17 : PV) : u0k v2 v3 v5 v6 v8 v9 v10 v15 v16 v17 =
 M.bind (mx (strip v6) (strip v9)) fun t59_0 =>
 M.bind (fa 2 v8) fun t61_1 =>
 M.bind (ld none false t61_1) fun t62_2 =>
 M.bind (ap true 1 1 v10 t62_2) fun t63_3 =>
 M.bind (fa 0 v8) fun t65_4 =>
 M.bind (ld none false t65_4) fun t66_5 =>
 M.bind (cv (.int .u8) true t66_5) fun t67_6 =>
 M.bind (bs true none [t67_6]) fun t68_7 =>
 M.bind (ap true 1 1 v5 t68_7) fun t69_8 =>
 M.bind (lnL (strip t63_3)) fun t72_9 =>
 M.bind (cv (.int .u64) true t72_9) fun t73_10 =>
 M.bind (C u3i [(strip t73_10)]) fun t74_11 =>
 M.bind (ap true 1 1 t69_8 t74_11) fun t75_12 =>
 M.bind (ap true 1 1 t75_12 (strip t63_3)) fun t78_13 =>
 M.bind (bi .add .none v17 (.int .i64 1)) fun t79_14 =>
 u11 v2 v3 t78_13 t59_0 v15 v16 (strip t79_14) :=
 (u18 P X _ _ _).trans (by kernel_rfl)
theorem uax (a0 : PV) : C u2r [a0] =
 trunc (M.bind (C u3n []) fun t13_0 =>
 M.bind (al [(.int .u8 0), (.int .u8 0), (.int .u8 0), (.int .u8 0), (.int .u8 0), (.int .u8 0), (.int .u8 0), (.int .u8 0)]) fun t4_1 =>
 M.bind (st 8 true t4_1 t13_0) fun _ =>
 M.bind (slA true 8 t4_1 none) fun t14_3 =>
 M.bind (lnL (strip a0)) fun t16_4 =>
 u11 (.slice false true 0 []) (.int .i64 0) t14_3 (.int .i64 0) (strip a0) t16_4 (.int .i64 0)) := by
 rw [C, u0z _ _ rfl]; kernel_rfl
noncomputable def u0g (v0 v2 v3 v4 v5 v6 v7 : PV) : M PV := atP P X u14 [1, 1, 1, 1, 0, 1, 0] (mkEnv 106 0 [(0, v0), (2, v2), (3, v3), (4, v4), (5, v5), (6, v6), (7, v7)])
noncomputable def u0a (v0 v2 v3 v4 v5 v6 v7 v8 v10 : PV) : M PV := atP P X u14 [1, 1, 1, 1, 0, 1, 0, 0, 1, 0, 0, 1, 1, 1, 1, 1, 1, 1] (mkEnv 106 0 [(0, v0), (2, v2), (3, v3), (4, v4), (5, v5), (6, v6), (7, v7), (8, v8), (10, v10)])
noncomputable def u16 (v0 v2 v3 v4 v5 v6 v7 : PV) : M PV := atP P X u14 [1, 1, 1, 1, 0, 1, 0, 0, 1, 1] (mkEnv 106 0 [(0, v0), (2, v2), (3, v3), (4, v4), (5, v5), (6, v6), (7, v7)])
theorem u1r (v0 v2 v3 v4 v5 v6 v7 : PV) : u0g v0 v2 v3 v4 v5 v6 v7 =
 M.bind (lnL (strip v0)) fun t17_0 =>
 M.bind (bi .lss .none (strip v7) t17_0) fun t18_1 =>
 condM t18_1
 (M.bind (iaS 4 (strip v0) (strip v7)) fun t23_2 =>
 M.bind (ld (some 4) true t23_2) fun t24_3 =>
 M.bind (al [(.int .i64 0), (.str ⟨#[]⟩), (.slice false true 0 []), (.int .i64 0)]) fun t8_4 =>
 M.bind (st 4 true t8_4 t24_3) fun _ =>
 M.bind (fa 0 t8_4) fun t25_6 =>
 M.bind (ld none false t25_6) fun t26_7 =>
 M.bind (C u1s [(strip t26_7)]) fun t27_8 =>
 M.bind (bi .lss .none (strip t27_8) (.int .i64 0)) fun t29_9 =>
 M.bind (gd (strip t29_9) false (M.pure (strip t27_8))) fun t31_10 =>
 M.bind (gd (strip t29_9) false (bi .gtr .none t31_10 (.int .i64 0))) fun t32_11 =>
 M.bind (gd (strip t29_9) false (M.pure (strip t32_11))) fun t33_12 =>
 M.bind (gd t33_12 true (fa 1 t8_4)) fun t34_13 =>
 M.bind (gd t33_12 true (ld none false t34_13)) fun t35_14 =>
 M.bind (gd t33_12 true (bi .neq .none t35_14 (.str ⟨#[]⟩))) fun t36_15 =>
 M.bind (gd (strip t29_9) false (pick t33_12 t36_15 (.bool false))) fun t37_16 =>
 M.bind (pick (strip t29_9) (.bool true) t37_16) fun t38_17 =>
 condM t38_17
 (M.pure (.tup [(.slice false true 0 []), (.int .i64 4)]))
 (M.bind (bi .gtr .none (strip t27_8) (.int .i64 0)) fun t40_18 =>
 M.bind (gd (strip t40_18) true (M.pure (strip t27_8))) fun t42_19 =>
 M.bind (gd (strip t40_18) true (M.pure (strip v5))) fun t43_20 =>
 M.bind (gd (strip t40_18) true (bi .leq .none t42_19 t43_20)) fun t44_21 =>
 M.bind (pick (strip t40_18) t44_21 (.bool false)) fun t45_22 =>
 condM t45_22
 (M.pure (.tup [(.slice false true 0 []), (.int .i64 20)]))
 (M.bind (mx (strip v5) (strip t27_8)) fun t48_23 =>
 M.bind (bi .eql .none (strip t27_8) (.int .i64 0)) fun t50_24 =>
 condM t50_24
 (M.bind (fa 1 t8_4) fun t52_25 =>
 M.bind (ld none false t52_25) fun t53_26 =>
 M.bind (C u1w [(strip t53_26)]) fun t54_27 =>
 M.bind (ex 0 t54_27) fun t55_28 =>
 M.bind (ex 1 (tupDrop 0 t54_27)) fun t56_29 =>
 M.bind (bi .neq .none (strip t56_29) (.int .i64 0)) fun t58_30 =>
 condM t58_30
 (resT t56_29 (M.pure (.tup [(.slice false true 0 []), t56_29])))
 (u0a v0 v2 v3 v4 t48_23 v6 v7 t8_4 t55_28))
 (u0a v0 v2 v3 v4 t48_23 v6 v7 t8_4 (.slice false true 0 [])))))
 (M.bind (gd (strip (strip v6)) false (M.pure (strip v4))) fun t101_31 =>
 M.bind (gd (strip (strip v6)) false (lnL t101_31)) fun t102_32 =>
 M.bind (gd (strip (strip v6)) false (bi .gtr .none t102_32 (.int .i64 1048576))) fun t103_33 =>
 M.bind (pick (strip (strip v6)) (.bool true) t103_33) fun t104_34 =>
 condM t104_34
 (M.pure (.tup [(.slice false true 0 []), (.int .i64 2)]))
 (resT v4 (M.pure (.tup [v4, (.int .i64 0)])))) :=
 (u18 P X _ _ _).trans (by kernel_rfl)
theorem u1x (v0 v2 v3 v4 v5 v6 v7 v8 v10 : PV) : u0a v0 v2 v3 v4 v5 v6 v7 v8 v10 =
 M.bind (lnL (strip v10)) fun t62_0 =>
 M.bind (fa 2 v8) fun t63_1 =>
 M.bind (ld none false t63_1) fun t64_2 =>
 M.bind (lnL t64_2) fun t65_3 =>
 M.bind (bi .add .none t62_0 t65_3) fun t66_4 =>
 M.bind (gd (strip (strip v6)) false (M.pure (strip t66_4))) fun t69_5 =>
 M.bind (gd (strip (strip v6)) false (bi .gtr .none t69_5 (.int .i64 1048576))) fun t70_6 =>
 M.bind (pick (strip (strip v6)) (.bool true) t70_6) fun t71_7 =>
 M.bind (gd (strip t71_7) false (M.pure (strip v4))) fun t73_8 =>
 M.bind (gd (strip t71_7) false (lnL t73_8)) fun t74_9 =>
 M.bind (gd (strip t71_7) false (M.pure (strip t66_4))) fun t75_10 =>
 M.bind (gd (strip t71_7) false (bi .add .none t74_9 t75_10)) fun t76_11 =>
 M.bind (gd (strip t71_7) false (bi .gtr .none t76_11 (.int .i64 1048576))) fun t77_12 =>
 M.bind (pick (strip t71_7) (.bool true) t77_12) fun t78_13 =>
 M.bind (un .not (strip t78_13)) fun t80_14 =>
 condM t80_14
 (M.bind (fa 0 v8) fun t82_15 =>
 M.bind (ld none false t82_15) fun t83_16 =>
 M.bind (cv (.int .u8) true t83_16) fun t84_17 =>
 M.bind (bs true none [t84_17]) fun t85_18 =>
 M.bind (ap true 1 1 v4 t85_18) fun t86_19 =>
 M.bind (cv (.int .u64) true (strip t66_4)) fun t89_20 =>
 M.bind (C u1e [(strip t89_20)]) fun t90_21 =>
 M.bind (ap true 1 1 t86_19 t90_21) fun t91_22 =>
 M.bind (ap true 1 1 t91_22 (strip v10)) fun t94_23 =>
 M.bind (fa 2 v8) fun t96_24 =>
 M.bind (ld none false t96_24) fun t97_25 =>
 M.bind (ap true 1 1 t94_23 t97_25) fun t98_26 =>
 u16 v0 v2 v3 t98_26 v5 t78_13 v7)
 (u16 v0 v2 v3 v4 v5 t78_13 v7) :=
 (u18 P X _ _ _).trans (by kernel_rfl)
theorem u0l (v0 v2 v3 v4 v5 v6 v7 : PV) : u16 v0 v2 v3 v4 v5 v6 v7 =
 M.bind (bi .add .none (strip v7) (.int .i64 1)) fun t20_0 =>
 u0g v0 v2 v3 v4 v5 v6 t20_0 :=
 (u18 P X _ _ _).trans (by kernel_rfl)
theorem u4l (a0 : PV) : C u14 [a0] =
 trunc (M.bind (C u2a []) fun t14_0 =>
 u0g a0 (.slice false true 0 []) (.int .i64 0) t14_0 (.int .i64 0) (.bool false) (.int .i64 0)) := by
 rw [C, u0z _ _ rfl]; kernel_rfl
theorem u4j (a0 a1 : PV) : C u0p [a0, a1] =
 trunc (M.bind (cv .bytesToStr true (strip a0)) fun t6_0 =>
 M.bind (cv .bytesToStr true (strip a1)) fun t8_1 =>
 M.bind (bi .eql .none t6_0 t8_1) fun t9_2 =>
 resT t9_2 (M.pure t9_2)) := by
 rw [C, u0z _ _ rfl]; kernel_rfl
theorem uam (a0 : PV) : C u3b [a0] =
 trunc (M.bind (bi .lss .none (strip a0) (.int .i64 0)) fun t4_0 =>
 M.bind (gd (strip t4_0) false (M.pure (strip a0))) fun t6_1 =>
 M.bind (gd (strip t4_0) false (bi .gtr .none t6_1 (.int .i64 13))) fun t7_2 =>
 M.bind (pick (strip t4_0) (.bool true) t7_2) fun t8_3 =>
 condM t8_3
 (M.pure (.int .i64 (-1)))
 (M.bind (C u3l []) fun t9_4 =>
 M.bind (ixA 14 1 none t9_4 (strip a0)) fun t11_5 =>
 resT t11_5 (M.pure t11_5))) := by
 rw [C, u0z _ _ rfl]; kernel_rfl
theorem u4o (a0 : PV) : C u1s [a0] =
 trunc (M.bind (bi .lss .none (strip a0) (.int .i64 0)) fun t5_0 =>
 M.bind (gd (strip t5_0) false (M.pure (strip a0))) fun t7_1 =>
 M.bind (gd (strip t5_0) false (bi .gtr .none t7_1 (.int .i64 13))) fun t8_2 =>
 M.bind (pick (strip t5_0) (.bool true) t8_2) fun t9_3 =>
 condM t9_3
 (M.pure (.int .i64 (-1)))
 (M.bind (bi .eql .none (strip a0) (.int .i64 13)) fun t12_4 =>
 condM t12_4
 (M.pure (.int .i64 6))
 (M.bind (bi .eql .none (strip a0) (.int .i64 12)) fun t15_5 =>
 condM t15_5
 (M.pure (.int .i64 11))
 (M.bind (bi .leq .none (strip a0) (.int .i64 5)) fun t18_6 =>
 condM t18_6
 (resT a0 (M.pure a0))
 (M.bind (bi .leq .none (strip a0) (.int .i64 9)) fun t22_7 =>
 condM t22_7
 (M.bind (bi .add .none (strip a0) (.int .i64 1)) fun t24_8 =>
 resT t24_8 (M.pure t24_8))
 (M.bind (bi .add .none (strip a0) (.int .i64 2)) fun t26_9 =>
 resT t26_9 (M.pure t26_9))))))) := by
 rw [C, u0z _ _ rfl]; kernel_rfl
noncomputable def u1o (v1 v4 v5 v8 v9 v10 : PV) : M PV := atP P X u2p [1, 0, 1, 0] (mkEnv 22 0 [(1, v1), (4, v4), (5, v5), (8, v8), (9, v9), (10, v10)])
theorem u2w (v1 v4 v5 v8 v9 v10 : PV) : u1o v1 v4 v5 v8 v9 v10 =
 M.bind (bi .lss .none v10 v9) fun t11_0 =>
 condM t11_0
 (M.bind (iaS 4 v8 v10) fun t12_1 =>
 M.bind (ld (some 4) true t12_1) fun t13_2 =>
 M.bind (al [(.int .i64 0), (.str ⟨#[]⟩), (.slice false true 0 []), (.int .i64 0)]) fun t7_3 =>
 M.bind (st 4 true t7_3 t13_2) fun _ =>
 M.bind (fa 0 t7_3) fun t14_5 =>
 M.bind (ld none false t14_5) fun t15_6 =>
 M.bind (bi .eql .none t15_6 (strip v1)) fun t17_7 =>
 condM t17_7
 (M.bind (ld (some 4) false t7_3) fun t18_8 =>
 M.bind (C u2o [(strip t18_8)]) fun t19_9 =>
 M.bind (st 4 true v4 t19_9) fun _ =>
 M.bind (ld (some 4) true v4) fun t0_11 => guardM (!isTup t0_11) (M.pure (.tup [t0_11, (.bool true)])))
 (M.bind (bi .add .none v10 (.int .i64 1)) fun t20_12 =>
 u1o v1 v4 v5 v8 v9 (strip t20_12)))
 (M.bind (bd [(.int .i64 0), (.str ⟨#[]⟩), (.slice false true 0 []), (.int .i64 0)] []) fun t21_13 =>
 M.bind (st 4 true v4 t21_13) fun _ =>
 M.bind (ld (some 4) true v4) fun t0_15 => guardM (!isTup t0_15) (M.pure (.tup [t0_15, (.bool false)]))) :=
 (u18 P X _ _ _).trans (by kernel_rfl)
theorem uak (a0 a1 : PV) : C u2p [a0, a1] =
 trunc (M.bind (al [(.int .i64 0), (.str ⟨#[]⟩), (.slice false true 0 []), (.int .i64 0)]) fun t4_0 =>
 M.bind (lnL (strip a0)) fun t9_1 =>
 u1o a1 t4_0 (.bool false) (strip a0) t9_1 (.int .i64 0)) := by
 rw [C, u0z _ _ rfl]; kernel_rfl
noncomputable def u0w (v0 v1 v4 v5 v6 : PV) : M PV := atP P X u1c [1, 0, 1, 0] (mkEnv 25 0 [(0, v0), (1, v1), (4, v4), (5, v5), (6, v6)])
theorem u23 (v0 v1 v4 v5 v6 : PV) : u0w v0 v1 v4 v5 v6 =
 M.bind (lnL (strip v0)) fun t9_0 =>
 M.bind (bi .lss .none (strip v6) t9_0) fun t10_1 =>
 condM t10_1
 (M.bind (iaS 4 (strip v0) (strip v6)) fun t15_2 =>
 M.bind (fa 0 t15_2) fun t16_3 =>
 M.bind (ld none false t16_3) fun t17_4 =>
 M.bind (bi .eql .none t17_4 (strip v1)) fun t19_5 =>
 condM t19_5
 (M.bind (iaS 4 (strip v0) (strip v6)) fun t22_6 =>
 M.bind (ld (some 4) true t22_6) fun t23_7 =>
 M.bind (st 4 true v4 t23_7) fun _ =>
 M.bind (ld (some 4) true v4) fun t0_9 => guardM (!isTup t0_9) (M.pure (.tup [t0_9, (.bool true)])))
 (M.bind (bi .add .none (strip v6) (.int .i64 1)) fun t12_10 =>
 u0w v0 v1 v4 v5 t12_10))
 (M.bind (bd [(.int .i64 0), (.str ⟨#[]⟩), (.slice false true 0 []), (.int .i64 0)] []) fun t24_11 =>
 M.bind (st 4 true v4 t24_11) fun _ =>
 M.bind (ld (some 4) true v4) fun t0_13 => guardM (!isTup t0_13) (M.pure (.tup [t0_13, (.bool false)]))) :=
 (u18 P X _ _ _).trans (by kernel_rfl)
theorem u4k (a0 a1 : PV) : C u1c [a0, a1] =
 trunc (M.bind (al [(.int .i64 0), (.str ⟨#[]⟩), (.slice false true 0 []), (.int .i64 0)]) fun t4_0 =>
 u0w a0 a1 t4_0 (.bool false) (.int .i64 0)) := by
 rw [C, u0z _ _ rfl]; kernel_rfl
noncomputable def u0r (v0 v1 v2 v6 v7 : PV) : M PV := atP P X u1m [1, 1, 0, 1, 0] (mkEnv 73 0 [(0, v0), (1, v1), (2, v2), (6, v6), (7, v7)])
theorem u1v (v0 v1 v2 v6 v7 : PV) : u0r v0 v1 v2 v6 v7 =
 M.bind (lnL (strip v0)) fun t15_0 =>
 M.bind (bi .lss .none (strip v7) t15_0) fun t16_1 =>
 condM t16_1
 (nb (iaS 4 (strip v0) (strip v7)) fun t21_2 =>
 nb (fa 0 t21_2) fun t22_3 =>
 nb (ld none false t22_3) fun t23_4 =>
 nb (iaS 4 (strip v1) (strip v7)) fun t26_5 =>
 nb (fa 0 t26_5) fun t27_6 =>
 nb (ld none false t27_6) fun t28_7 =>
 nb (bi .neq .none t23_4 t28_7) fun t29_8 =>
 nb (gd (strip t29_8) false (M.pure (strip v0))) fun t31_9 =>
 nb (gd (strip t29_8) false (M.pure (strip v7))) fun t32_10 =>
 nb (gd (strip t29_8) false (iaS 4 t31_9 t32_10)) fun t33_11 =>
 nb (gd (strip t29_8) false (fa 1 t33_11)) fun t34_12 =>
 nb (gd (strip t29_8) false (ld none false t34_12)) fun t35_13 =>
 nb (gd (strip t29_8) false (M.pure (strip v1))) fun t36_14 =>
 nb (gd (strip t29_8) false (M.pure (strip v7))) fun t37_15 =>
 nb (gd (strip t29_8) false (iaS 4 t36_14 t37_15)) fun t38_16 =>
 nb (gd (strip t29_8) false (fa 1 t38_16)) fun t39_17 =>
 nb (gd (strip t29_8) false (ld none false t39_17)) fun t40_18 =>
 nb (gd (strip t29_8) false (bi .neq .none t35_13 t40_18)) fun t41_19 =>
 nb (pick (strip t29_8) (.bool true) t41_19) fun t42_20 =>
 nb (gd (strip t42_20) false (M.pure (strip v0))) fun t44_21 =>
 nb (gd (strip t42_20) false (M.pure (strip v7))) fun t45_22 =>
 nb (gd (strip t42_20) false (iaS 4 t44_21 t45_22)) fun t46_23 =>
 nb (gd (strip t42_20) false (fa 2 t46_23)) fun t47_24 =>
 nb (gd (strip t42_20) false (ld none false t47_24)) fun t48_25 =>
 nb (gd (strip t42_20) false (M.pure (strip v1))) fun t49_26 =>
 nb (gd (strip t42_20) false (M.pure (strip v7))) fun t50_27 =>
 nb (gd (strip t42_20) false (iaS 4 t49_26 t50_27)) fun t51_28 =>
 nb (gd (strip t42_20) false (fa 2 t51_28)) fun t52_29 =>
 nb (gd (strip t42_20) false (ld none false t52_29)) fun t53_30 =>
 nb (gd (strip t42_20) false (C u0p [(strip t48_25), (strip t53_30)])) fun t54_31 =>
 nb (gd (strip t42_20) false (un .not t54_31)) fun t55_32 =>
 nb (pick (strip t42_20) (.bool true) t55_32) fun t56_33 =>
 nb (gd (strip t56_33) false (M.pure (strip v2))) fun t58_34 =>
 nb (gd (strip t56_33) false (M.pure (strip t58_34))) fun t59_35 =>
 nb (gd t59_35 true (M.pure (strip v0))) fun t60_36 =>
 nb (gd t59_35 true (M.pure (strip v7))) fun t61_37 =>
 nb (gd t59_35 true (iaS 4 t60_36 t61_37)) fun t62_38 =>
 nb (gd t59_35 true (fa 3 t62_38)) fun t63_39 =>
 nb (gd t59_35 true (ld none false t63_39)) fun t64_40 =>
 nb (gd t59_35 true (M.pure (strip v1))) fun t65_41 =>
 nb (gd t59_35 true (M.pure (strip v7))) fun t66_42 =>
 nb (gd t59_35 true (iaS 4 t65_41 t66_42)) fun t67_43 =>
 nb (gd t59_35 true (fa 3 t67_43)) fun t68_44 =>
 nb (gd t59_35 true (ld none false t68_44)) fun t69_45 =>
 nb (gd t59_35 true (bi .neq .none t64_40 t69_45)) fun t70_46 =>
 nb (gd (strip t56_33) false (pick t59_35 t70_46 (.bool false))) fun t71_47 =>
 nb (pick (strip t56_33) (.bool true) t71_47) fun t72_48 =>
 condM t72_48
 (M.pure (.bool false))
 (M.bind (bi .add .none (strip v7) (.int .i64 1)) fun t18_49 =>
 u0r v0 v1 v2 v6 t18_49))
 (M.pure (.bool true)) :=
 (u18 P X _ _ _).trans (by kernel_rfl)
theorem u43 (a0 a1 a2 : PV) : C u1m [a0, a1, a2] =
 trunc (M.bind (lnL (strip a0)) fun t9_0 =>
 M.bind (lnL (strip a1)) fun t11_1 =>
 M.bind (bi .neq .none t9_0 t11_1) fun t12_2 =>
 condM t12_2
 (M.pure (.bool false))
 (u0r a0 a1 a2 (.bool false) (.int .i64 0))) := by
 rw [C, u0z _ _ rfl]; kernel_rfl
noncomputable def u17 (v1 v4 v5 v8 v9 v10 : PV) : M PV := atP P X u1y [1, 1, 0, 1, 0] (mkEnv 30 0 [(1, v1), (4, v4), (5, v5), (8, v8), (9, v9), (10, v10)])
noncomputable def u1l (v1 v4 v5 v8 v9 v10 : PV) : M PV := atP P X u1y [1, 1, 0, 1, 0, 0, 1, 1, 1] (mkEnv 30 0 [(1, v1), (4, v4), (5, v5), (8, v8), (9, v9), (10, v10)])
theorem u2e (v1 v4 v5 v8 v9 v10 : PV) : u17 v1 v4 v5 v8 v9 v10 =
 M.bind (bi .lss .none v10 v9) fun t11_0 =>
 condM t11_0
 (M.bind (iaS 4 v8 v10) fun t12_1 =>
 M.bind (ld (some 4) true t12_1) fun t13_2 =>
 M.bind (al [(.int .i64 0), (.str ⟨#[]⟩), (.slice false true 0 []), (.int .i64 0)]) fun t7_3 =>
 M.bind (st 4 true t7_3 t13_2) fun _ =>
 M.bind (fa 0 t7_3) fun t14_5 =>
 M.bind (ld none false t14_5) fun t15_6 =>
 M.bind (bi .eql .none t15_6 (.int .i64 0)) fun t16_7 =>
 M.bind (gd (strip t16_7) true (fa 1 t7_3)) fun t18_8 =>
 M.bind (gd (strip t16_7) true (ld none false t18_8)) fun t19_9 =>
 M.bind (gd (strip t16_7) true (M.pure (strip v1))) fun t20_10 =>
 M.bind (gd (strip t16_7) true (bi .eql .none t19_9 t20_10)) fun t21_11 =>
 M.bind (pick (strip t16_7) t21_11 (.bool false)) fun t22_12 =>
 condM t22_12
 (M.bind (ld (some 4) false t7_3) fun t24_13 =>
 M.bind (C u2o [(strip t24_13)]) fun t25_14 =>
 M.bind (bs true (some 4) [t25_14]) fun t26_15 =>
 M.bind (ap true 4 56 v5 t26_15) fun t27_16 =>
 u1l v1 v4 t27_16 v8 v9 v10)
 (u1l v1 v4 v5 v8 v9 v10))
 (resT v5 (M.pure v5)) :=
 (u18 P X _ _ _).trans (by kernel_rfl)
theorem u1b (v1 v4 v5 v8 v9 v10 : PV) : u1l v1 v4 v5 v8 v9 v10 =
 M.bind (bi .add .none v10 (.int .i64 1)) fun t28_0 =>
 u17 v1 v4 v5 v8 v9 (strip t28_0) :=
 (u18 P X _ _ _).trans (by kernel_rfl)
theorem u6c (a0 a1 : PV) : C u1y [a0, a1] =
 trunc (M.bind (lnL (strip a0)) fun t9_0 =>
 u17 a1 (.slice false true 0 []) (.slice false true 0 []) (strip a0) t9_0 (.int .i64 0)) := by
 rw [C, u0z _ _ rfl]; kernel_rfl
noncomputable def u0m (v0 v1 v4 v5 v6 : PV) : M PV := atP P X u12 [1, 1, 0, 1, 0] (mkEnv 36 0 [(0, v0), (1, v1), (4, v4), (5, v5), (6, v6)])
noncomputable def u15 (v0 v1 v4 v5 v6 : PV) : M PV := atP P X u12 [1, 1, 0, 1, 0, 0, 1, 1] (mkEnv 36 0 [(0, v0), (1, v1), (4, v4), (5, v5), (6, v6)])
theorem u1n (v0 v1 v4 v5 v6 : PV) : u0m v0 v1 v4 v5 v6 =
 M.bind (lnL (strip v0)) fun t9_0 =>
 M.bind (bi .lss .none (strip v6) t9_0) fun t10_1 =>
 condM t10_1
 (M.bind (iaS 4 (strip v0) (strip v6)) fun t15_2 =>
 M.bind (fa 0 t15_2) fun t16_3 =>
 M.bind (ld none false t16_3) fun t17_4 =>
 M.bind (bi .eql .none t17_4 (.int .i64 0)) fun t18_5 =>
 M.bind (gd (strip t18_5) true (M.pure (strip v0))) fun t20_6 =>
 M.bind (gd (strip t18_5) true (M.pure (strip v6))) fun t21_7 =>
 M.bind (gd (strip t18_5) true (iaS 4 t20_6 t21_7)) fun t22_8 =>
 M.bind (gd (strip t18_5) true (fa 1 t22_8)) fun t23_9 =>
 M.bind (gd (strip t18_5) true (ld none false t23_9)) fun t24_10 =>
 M.bind (gd (strip t18_5) true (M.pure (strip v1))) fun t25_11 =>
 M.bind (gd (strip t18_5) true (bi .eql .none t24_10 t25_11)) fun t26_12 =>
 M.bind (pick (strip t18_5) t26_12 (.bool false)) fun t27_13 =>
 condM t27_13
 (M.bind (iaS 4 (strip v0) (strip v6)) fun t31_14 =>
 M.bind (ld (some 4) false t31_14) fun t32_15 =>
 M.bind (bs true (some 4) [t32_15]) fun t33_16 =>
 M.bind (ap true 4 56 v5 t33_16) fun t34_17 =>
 u15 v0 v1 v4 t34_17 v6)
 (u15 v0 v1 v4 v5 v6))
 (resT v5 (M.pure v5)) :=
 (u18 P X _ _ _).trans (by kernel_rfl)
theorem u10 (v0 v1 v4 v5 v6 : PV) : u15 v0 v1 v4 v5 v6 =
 M.bind (bi .add .none (strip v6) (.int .i64 1)) fun t12_0 =>
 u0m v0 v1 v4 v5 t12_0 :=
 (u18 P X _ _ _).trans (by kernel_rfl)
theorem u3j (a0 a1 : PV) : C u12 [a0, a1] =
 trunc (u0m a0 a1 (.slice false true 0 []) (.slice false true 0 []) (.int .i64 0)) := by
 rw [C, u0z _ _ rfl]; kernel_rfl
end Go.Proofs.YtiamjepnlnjlfaaDoor.Pi.Q
namespace Go.Proofs.YtiamjepnlnjlfaaDoor.Pi.Q
open Go Go.Proofs.YtiamjepnlnjlfaaDoor.Pi
noncomputable def u0n (v0 v2 v3 v4 : PV) : M PV := atP P X u1d [1, 0, 1, 0] (mkEnv 51 0 [(0, v0), (2, v2), (3, v3), (4, v4)])
noncomputable def u0f (v0 v2 v3 v4 v5 v6 : PV) : M PV := atP P X u1d [1, 0, 1, 0, 0, 1, 0, 1, 1, 0, 1, 0] (mkEnv 51 0 [(0, v0), (2, v2), (3, v3), (4, v4), (5, v5), (6, v6)])
theorem u38 (v0 v2 v3 v4 : PV) : u0n v0 v2 v3 v4 =
 M.bind (lnL (strip v0)) fun t9_0 =>
 M.bind (bi .lss .none (strip v4) t9_0) fun t10_1 =>
 condM t10_1
 (M.bind (iaS 1 (strip v0) (strip v4)) fun t13_2 =>
 M.bind (ld none false t13_2) fun t14_3 =>
 M.bind (C u21 [(strip t14_3)]) fun t15_4 =>
 M.bind (bi .eql .none (strip t15_4) (.int .i64 0)) fun t17_5 =>
 condM t17_5
 (resT v4 (M.pure (.tup [v4, (.bool false)])))
 (u0f v0 v2 v3 v4 t15_4 (.int .i64 1)))
 (M.pure (.tup [(.int .i64 0), (.bool true)])) :=
 (u18 P X _ _ _).trans (by kernel_rfl)
theorem u1f (v0 v2 v3 v4 v5 v6 : PV) : u0f v0 v2 v3 v4 v5 v6 =
 M.bind (bi .lss .none (strip v6) (strip v5)) fun t21_0 =>
 condM t21_0
 (M.bind (bi .add .none (strip v4) (strip v6)) fun t26_1 =>
 M.bind (lnL (strip v0)) fun t28_2 =>
 M.bind (bi .geq .none t26_1 t28_2) fun t29_3 =>
 condM t29_3
 (M.bind (lnL (strip v0)) fun t31_4 =>
 resT t31_4 (M.pure (.tup [t31_4, (.bool false)])))
 (M.bind (noPan (M.pure (strip v0))) fun t32_18 =>
 M.bind (noPan (M.pure (strip v4))) fun t33_19 =>
 M.bind (noPan (iaS 1 t32_18 t33_19)) fun t34_20 =>
 M.bind (noPan (M.pure (strip v6))) fun t36_21 =>
 M.bind (noPan (M.pure (strip v0))) fun t37_22 =>
 M.bind (noPan (M.pure (strip v4))) fun t38_23 =>
 M.bind (noPan (M.pure (strip v6))) fun t39_24 =>
 M.bind (noPan (bi .add .none t38_23 t39_24)) fun t40_25 =>
 M.bind (noPan (iaS 1 t37_22 t40_25)) fun t41_26 =>
 M.bind (noPan (ld none false t34_20)) fun t35_27 =>
 M.bind (noPan (ld none false t41_26)) fun t42_28 =>
 M.bind (noPan (C u1g [(strip t35_27), (strip t36_21), (strip t42_28)])) fun t43_29 =>
 M.bind (noPan (un .not t43_29)) fun t44_30 =>
 condM t44_30
 (M.bind (bi .add .none (strip v4) (strip v6)) fun t47_31 =>
 resT t47_31 (M.pure (.tup [t47_31, (.bool false)])))
 (M.bind (bi .add .none (strip v6) (.int .i64 1)) fun t23_32 =>
 u0f v0 v2 v3 v4 v5 t23_32)))
 (M.bind (bi .add .none (strip v4) (strip v5)) fun t50_33 =>
 u0n v0 v2 v3 t50_33) :=
 (u18 P X _ _ _).trans (by kernel_rfl)
theorem u4n (a0 : PV) : C u1d [a0] =
 trunc (u0n a0 (.int .i64 0) (.bool false) (.int .i64 0)) := by
 rw [C, u0z _ _ rfl]; kernel_rfl
theorem u6b (a0 : PV) : C u31 [a0] =
 trunc (M.bind (lnS (strip a0)) fun t5_0 =>
 M.bind (bi .gtr .none t5_0 (.int .i64 65536)) fun t6_1 =>
 condM t6_1
 (M.pure (.tup [(.slice false true 0 []), (.int .i64 2)]))
 (M.bind (C u0h [(strip (strip a0))]) fun t8_2 =>
 M.bind (un .not t8_2) fun t9_3 =>
 condM t9_3
 (M.pure (.tup [(.slice false true 0 []), (.int .i64 21)]))
 (M.bind (lnS (strip a0)) fun t11_4 =>
 M.bind (cv (.int .u64) true t11_4) fun t12_5 =>
 M.bind (C u3i [(strip t12_5)]) fun t13_6 =>
 M.bind (ap true 1 1 t13_6 (strip a0)) fun t15_7 =>
 resT t15_7 (M.pure (.tup [t15_7, (.int .i64 0)]))))) := by
 rw [C, u0z _ _ rfl]; kernel_rfl
theorem u3q (a0 : PV) : C u1w [a0] =
 trunc (M.bind (lnS (strip a0)) fun t7_0 =>
 M.bind (bi .gtr .none t7_0 (.int .i64 65536)) fun t8_1 =>
 condM t8_1
 (M.pure (.tup [(.slice false true 0 []), (.int .i64 2)]))
 (M.bind (cv (.strToBytes 5) true (strip a0)) fun t11_2 =>
 M.bind (C u1d [(strip t11_2)]) fun t12_3 =>
 M.bind (ex 0 t12_3) fun t13_4 =>
 M.bind (ex 1 (tupDrop 0 t12_3)) fun t14_5 =>
 M.bind (un .not (strip t14_5)) fun t16_6 =>
 condM t16_6
 (M.pure (.tup [(.slice false true 0 []), (.int .i64 21)]))
 (M.bind (lnS (strip a0)) fun t18_7 =>
 M.bind (cv (.int .u64) true t18_7) fun t19_8 =>
 M.bind (C u1e [(strip t19_8)]) fun t20_9 =>
 M.bind (ap true 1 1 t20_9 (strip a0)) fun t22_10 =>
 resT t22_10 (M.pure (.tup [t22_10, (.int .i64 0)]))))) := by
 rw [C, u0z _ _ rfl]; kernel_rfl
theorem u8s : C u3n [] =
 trunc (M.bind (al [(.int .u8 0), (.int .u8 0), (.int .u8 0), (.int .u8 0), (.int .u8 0), (.int .u8 0), (.int .u8 0), (.int .u8 0)]) fun t0_0 =>
 M.bind (bd [(.int .u8 0), (.int .u8 0), (.int .u8 0), (.int .u8 0), (.int .u8 0), (.int .u8 0), (.int .u8 0), (.int .u8 0)] [(0, 1, (.int .u8 0)), (1, 1, (.int .u8 97)), (2, 1, (.int .u8 115)), (3, 1, (.int .u8 109)), (4, 1, (.int .u8 1))]) fun t1_1 =>
 M.bind (st 8 true t0_0 t1_1) fun _ =>
 M.bind (ld (some 8) true t0_0) fun t0_3 => guardM (!isTup t0_3) (M.pure t0_3)) := by
 rw [C, u0z _ _ rfl]; kernel_rfl
noncomputable def u24 (v0 v2 v3 : PV) : M PV := atP P X u3i [1, 1, 0, 0] (mkEnv 19 0 [(0, v0), (2, v2), (3, v3)])
theorem u3d (v0 v2 v3 : PV) : u24 v0 v2 v3 =
 M.bind (bi .gtr .none (strip v0) (.int .u64 127)) fun t5_0 =>
 condM t5_0
 (M.bind (cv (.int .u8) true (strip v0)) fun t10_1 =>
 M.bind (bi .or .none t10_1 (.int .u8 128)) fun t11_2 =>
 M.bind (bs true none [t11_2]) fun t12_3 =>
 M.bind (ap true 1 1 v3 t12_3) fun t13_4 =>
 M.bind (bi .shr .none (strip v0) (.int .u64 7)) fun t7_5 =>
 u24 t7_5 v2 t13_4)
 (M.bind (cv (.int .u8) true (strip v0)) fun t16_6 =>
 M.bind (bs true none [t16_6]) fun t17_7 =>
 M.bind (ap true 1 1 v3 t17_7) fun t18_8 =>
 resT t18_8 (M.pure t18_8)) :=
 (u18 P X _ _ _).trans (by kernel_rfl)
theorem udq (a0 : PV) : C u3i [a0] =
 trunc (u24 a0 (.slice false true 0 []) (.slice false true 0 [])) := by
 rw [C, u0z _ _ rfl]; kernel_rfl
theorem u4m : C u2a [] =
 trunc (M.bind (bs true none [(.int .u8 0), (.int .u8 97), (.int .u8 115), (.int .u8 109), (.int .u8 1), (.int .u8 0), (.int .u8 0), (.int .u8 0)]) fun t1_0 =>
 resT t1_0 (M.pure t1_0)) := by
 rw [C, u0z _ _ rfl]; kernel_rfl
noncomputable def u0y (v0 v2 v3 : PV) : M PV := atP P X u1e [1, 1, 0, 0] (mkEnv 20 0 [(0, v0), (2, v2), (3, v3)])
theorem u22 (v0 v2 v3 : PV) : u0y v0 v2 v3 =
 M.bind (bi .geq .none (strip v0) (.int .u64 128)) fun t5_0 =>
 condM t5_0
 (M.bind (bi .rem .none (strip v0) (.int .u64 128)) fun t8_1 =>
 M.bind (cv (.int .u8) true t8_1) fun t9_2 =>
 M.bind (bi .add .none t9_2 (.int .u8 128)) fun t10_3 =>
 M.bind (bs true none [t10_3]) fun t11_4 =>
 M.bind (ap true 1 1 v3 t11_4) fun t12_5 =>
 M.bind (bi .quo .none (strip v0) (.int .u64 128)) fun t14_6 =>
 u0y t14_6 v2 t12_5)
 (M.bind (cv (.int .u8) true (strip v0)) fun t17_7 =>
 M.bind (bs true none [t17_7]) fun t18_8 =>
 M.bind (ap true 1 1 v3 t18_8) fun t19_9 =>
 resT t19_9 (M.pure t19_9)) :=
 (u18 P X _ _ _).trans (by kernel_rfl)
theorem u4p (a0 : PV) : C u1e [a0] =
 trunc (u0y a0 (.slice false true 0 []) (.slice false true 0 [])) := by
 rw [C, u0z _ _ rfl]; kernel_rfl
theorem u8t : C u3l [] =
 trunc (M.bind (al [(.int .i64 0), (.int .i64 0), (.int .i64 0), (.int .i64 0), (.int .i64 0), (.int .i64 0), (.int .i64 0), (.int .i64 0), (.int .i64 0), (.int .i64 0), (.int .i64 0), (.int .i64 0), (.int .i64 0), (.int .i64 0)]) fun t0_0 =>
 M.bind (bd [(.int .i64 0), (.int .i64 0), (.int .i64 0), (.int .i64 0), (.int .i64 0), (.int .i64 0), (.int .i64 0), (.int .i64 0), (.int .i64 0), (.int .i64 0), (.int .i64 0), (.int .i64 0), (.int .i64 0), (.int .i64 0)] [(0, 1, (.int .i64 0)), (1, 1, (.int .i64 1)), (2, 1, (.int .i64 2)), (3, 1, (.int .i64 3)), (4, 1, (.int .i64 4)), (5, 1, (.int .i64 5)), (6, 1, (.int .i64 7)), (7, 1, (.int .i64 8)), (8, 1, (.int .i64 9)), (9, 1, (.int .i64 10)), (10, 1, (.int .i64 12)), (11, 1, (.int .i64 13)), (12, 1, (.int .i64 11)), (13, 1, (.int .i64 6))]) fun t1_1 =>
 M.bind (st 14 true t0_0 t1_1) fun _ =>
 M.bind (ld (some 14) true t0_0) fun t0_3 => guardM (!isTup t0_3) (M.pure t0_3)) := by
 rw [C, u0z _ _ rfl]; kernel_rfl
theorem u81 (a0 : PV) : C u2o [a0] =
 trunc (M.bind (bx 4 a0) fun t1_0 =>
 M.bind (al [(.int .i64 0), (.str ⟨#[]⟩), (.slice false true 0 []), (.int .i64 0)]) fun t2_1 =>
 M.bind (fa 2 t1_0) fun t3_2 =>
 M.bind (ld none false t3_2) fun t4_3 =>
 M.bind (ap true 1 1 (.slice false true 0 []) t4_3) fun t5_4 =>
 M.bind (fa 2 t1_0) fun t6_5 =>
 M.bind (st 1 true t6_5 t5_4) fun _ =>
 M.bind (ld (some 4) true t1_0) fun t7_7 =>
 M.bind (st 4 true t2_1 t7_7) fun _ =>
 M.bind (ld (some 4) true t2_1) fun t0_9 => guardM (!isTup t0_9) (M.pure t0_9)) := by
 rw [C, u0z _ _ rfl]; kernel_rfl
theorem u3v (a0 : PV) : C u21 [a0] =
 trunc (M.bind (bi .lss .none (strip a0) (.int .u8 128)) fun t5_0 =>
 condM t5_0
 (M.pure (.int .i64 1))
 (M.bind (bi .geq .none (strip a0) (.int .u8 194)) fun t8_1 =>
 M.bind (gd (strip t8_1) true (M.pure (strip a0))) fun t10_2 =>
 M.bind (gd (strip t8_1) true (bi .leq .none t10_2 (.int .u8 223))) fun t11_3 =>
 M.bind (pick (strip t8_1) t11_3 (.bool false)) fun t12_4 =>
 condM t12_4
 (M.pure (.int .i64 2))
 (M.bind (bi .geq .none (strip a0) (.int .u8 224)) fun t15_5 =>
 M.bind (gd (strip t15_5) true (M.pure (strip a0))) fun t17_6 =>
 M.bind (gd (strip t15_5) true (bi .leq .none t17_6 (.int .u8 239))) fun t18_7 =>
 M.bind (pick (strip t15_5) t18_7 (.bool false)) fun t19_8 =>
 condM t19_8
 (M.pure (.int .i64 3))
 (M.bind (bi .geq .none (strip a0) (.int .u8 240)) fun t22_9 =>
 M.bind (gd (strip t22_9) true (M.pure (strip a0))) fun t24_10 =>
 M.bind (gd (strip t22_9) true (bi .leq .none t24_10 (.int .u8 244))) fun t25_11 =>
 M.bind (pick (strip t22_9) t25_11 (.bool false)) fun t26_12 =>
 condM t26_12
 (M.pure (.int .i64 4))
 (M.pure (.int .i64 0)))))) := by
 rw [C, u0z _ _ rfl]; kernel_rfl
noncomputable def u01 (v2 v6 v7 v8 : PV) : M PV := atP P X u1g [1, 1, 1] (mkEnv 28 0 [(2, v2), (6, v6), (7, v7), (8, v8)])
theorem u2v (v2 v6 v7 v8 : PV) : u01 v2 v6 v7 v8 =
 M.bind (bi .geq .none (strip v2) (strip v7)) fun t22_0 =>
 M.bind (gd (strip t22_0) true (M.pure (strip v2))) fun t24_1 =>
 M.bind (gd (strip t22_0) true (M.pure (strip v8))) fun t25_2 =>
 M.bind (gd (strip t22_0) true (bi .leq .none t24_1 t25_2)) fun t26_3 =>
 M.bind (pick (strip t22_0) t26_3 (.bool false)) fun t27_4 =>
 resT t27_4 (M.pure t27_4) :=
 (u18 P X _ _ _).trans (by kernel_rfl)
theorem u3k (a0 a1 a2 : PV) : C u1g [a0, a1, a2] =
 trunc (M.bind (bi .eql .none (strip a1) (.int .i64 1)) fun t10_0 =>
 condM t10_0
 (M.bind (bi .eql .none (strip a0) (.int .u8 224)) fun t13_1 =>
 condM t13_1
 (u01 a2 (.bool false) (.int .u8 160) (.int .u8 191))
 (M.bind (bi .eql .none (strip a0) (.int .u8 237)) fun t15_2 =>
 condM t15_2
 (u01 a2 (.bool false) (.int .u8 128) (.int .u8 159))
 (M.bind (bi .eql .none (strip a0) (.int .u8 240)) fun t17_3 =>
 condM t17_3
 (u01 a2 (.bool false) (.int .u8 144) (.int .u8 191))
 (M.bind (bi .eql .none (strip a0) (.int .u8 244)) fun t19_4 =>
 condM t19_4
 (u01 a2 (.bool false) (.int .u8 128) (.int .u8 143))
 (u01 a2 (.bool false) (.int .u8 128) (.int .u8 191))))))
 (u01 a2 (.bool false) (.int .u8 128) (.int .u8 191))) := by
 rw [C, u0z _ _ rfl]; kernel_rfl
noncomputable def u02 (v0 v2 : PV) : M PV := atP P X u0h [1, 0, 0] (mkEnv 169 0 [(0, v0), (2, v2)])
noncomputable def u0d (v0 v2 v3 : PV) : M PV := atP P X u0h [1, 0, 0, 0, 1, 0, 1, 0, 1, 0, 1, 1] (mkEnv 169 0 [(0, v0), (2, v2), (3, v3)])
noncomputable def u09 (v0 v2 v3 : PV) : M PV := atP P X u0h [1, 0, 0, 0, 1, 0, 1, 0, 1, 0, 1, 0, 1, 0, 1, 1, 0, 1, 0] (mkEnv 169 0 [(0, v0), (2, v2), (3, v3)])
theorem u0c (v0 v2 : PV) : u02 v0 v2 =
 M.bind (lnS (strip v0)) fun t8_0 =>
 M.bind (bi .gtr .none t8_0 (.int .i64 0)) fun t9_1 =>
 condM t9_1
 (M.bind (ixS (strip v0) (.int .i64 0)) fun t11_2 =>
 M.bind (bi .lss .none (strip t11_2) (.int .u8 128)) fun t13_3 =>
 condM t13_3
 (M.bind (slS (strip v0) (some (.int .i64 1)) none) fun t15_4 =>
 M.bind (lnS (strip t15_4)) fun t17_5 =>
 M.bind (bi .gtr .none t17_5 (.int .i64 8)) fun t18_6 =>
 M.bind (gd (strip t18_6) true (M.pure (strip t15_4))) fun t20_7 =>
 M.bind (gd (strip t18_6) true (C u07 [(strip t20_7)])) fun t21_8 =>
 M.bind (gd (strip t18_6) true (bi .and .none t21_8 (.int .u64 9259542123273814144))) fun t22_9 =>
 M.bind (gd (strip t18_6) true (bi .eql .none t22_9 (.int .u64 0))) fun t23_10 =>
 M.bind (pick (strip t18_6) t23_10 (.bool false)) fun t24_11 =>
 condM t24_11
 (M.bind (slS (strip t15_4) (some (.int .i64 8)) none) fun t26_12 =>
 nb (lnS (strip t26_12)) fun t28_13 =>
 nb (bi .gtr .none t28_13 (.int .i64 16)) fun t29_14 =>
 nb (gd (strip t29_14) true (M.pure (strip t26_12))) fun t31_15 =>
 nb (gd (strip t29_14) true (C u07 [(strip t31_15)])) fun t32_16 =>
 nb (gd (strip t29_14) true (M.pure (strip t26_12))) fun t33_17 =>
 nb (gd (strip t29_14) true (slS t33_17 (some (.int .i64 8)) none)) fun t34_18 =>
 nb (gd (strip t29_14) true (C u07 [(strip t34_18)])) fun t35_19 =>
 nb (gd (strip t29_14) true (bi .or .none t32_16 t35_19)) fun t36_20 =>
 nb (gd (strip t29_14) true (bi .and .none t36_20 (.int .u64 9259542123273814144))) fun t37_21 =>
 nb (gd (strip t29_14) true (bi .eql .none t37_21 (.int .u64 0))) fun t38_22 =>
 nb (pick (strip t29_14) t38_22 (.bool false)) fun t39_23 =>
 condM t39_23
 (M.bind (slS (strip t26_12) (some (.int .i64 16)) none) fun t41_24 =>
 u09 t41_24 v2 t11_2)
 (u0d t26_12 v2 t11_2))
 (u0d t15_4 v2 t11_2))
 (M.bind (iaA 256 1 (GT 0) (strip t11_2)) fun t66_25 =>
 M.bind (ld none true t66_25) fun t67_26 =>
 M.bind (bi .and .none (strip t67_26) (.int .u8 7)) fun t69_27 =>
 M.bind (cv (.int .i64) true t69_27) fun t70_28 =>
 M.bind (bi .shr .none (strip t67_26) (.int .u64 4)) fun t72_29 =>
 M.bind (iaA 16 2 (GT 1) t72_29) fun t73_30 =>
 M.bind (ld (some 2) true t73_30) fun t74_31 =>
 M.bind (al [(.int .u8 0), (.int .u8 0)]) fun t6_32 =>
 M.bind (st 2 true t6_32 t74_31) fun _ =>
 M.bind (bi .eql .none (strip t70_28) (.int .i64 2)) fun t77_34 =>
 condM t77_34
 (nb (lnS (strip v0)) fun t79_35 =>
 nb (bi .lss .none t79_35 (.int .i64 2)) fun t80_36 =>
 nb (gd (strip t80_36) false (M.pure (strip v0))) fun t82_37 =>
 nb (gd (strip t80_36) false (ixS t82_37 (.int .i64 1))) fun t83_38 =>
 nb (gd (strip t80_36) false (fa 0 t6_32)) fun t84_39 =>
 nb (gd (strip t80_36) false (ld none false t84_39)) fun t85_40 =>
 nb (gd (strip t80_36) false (bi .lss .none t83_38 t85_40)) fun t86_41 =>
 nb (pick (strip t80_36) (.bool true) t86_41) fun t87_42 =>
 nb (gd (strip t87_42) false (fa 1 t6_32)) fun t89_43 =>
 nb (gd (strip t87_42) false (ld none false t89_43)) fun t90_44 =>
 nb (gd (strip t87_42) false (M.pure (strip v0))) fun t91_45 =>
 nb (gd (strip t87_42) false (ixS t91_45 (.int .i64 1))) fun t92_46 =>
 nb (gd (strip t87_42) false (bi .lss .none t90_44 t92_46)) fun t93_47 =>
 nb (pick (strip t87_42) (.bool true) t93_47) fun t94_48 =>
 condM t94_48
 (M.pure (.bool false))
 (M.bind (slS (strip v0) (some (.int .i64 2)) none) fun t96_49 =>
 u02 t96_49 v2))
 (M.bind (bi .eql .none (strip t70_28) (.int .i64 3)) fun t98_50 =>
 condM t98_50
 (nb (lnS (strip v0)) fun t100_51 =>
 nb (bi .lss .none t100_51 (.int .i64 3)) fun t101_52 =>
 nb (gd (strip t101_52) false (M.pure (strip v0))) fun t103_53 =>
 nb (gd (strip t101_52) false (ixS t103_53 (.int .i64 1))) fun t104_54 =>
 nb (gd (strip t101_52) false (fa 0 t6_32)) fun t105_55 =>
 nb (gd (strip t101_52) false (ld none false t105_55)) fun t106_56 =>
 nb (gd (strip t101_52) false (bi .lss .none t104_54 t106_56)) fun t107_57 =>
 nb (pick (strip t101_52) (.bool true) t107_57) fun t108_58 =>
 nb (gd (strip t108_58) false (fa 1 t6_32)) fun t110_59 =>
 nb (gd (strip t108_58) false (ld none false t110_59)) fun t111_60 =>
 nb (gd (strip t108_58) false (M.pure (strip v0))) fun t112_61 =>
 nb (gd (strip t108_58) false (ixS t112_61 (.int .i64 1))) fun t113_62 =>
 nb (gd (strip t108_58) false (bi .lss .none t111_60 t113_62)) fun t114_63 =>
 nb (pick (strip t108_58) (.bool true) t114_63) fun t115_64 =>
 nb (gd (strip t115_64) false (M.pure (strip v0))) fun t117_65 =>
 nb (gd (strip t115_64) false (ixS t117_65 (.int .i64 2))) fun t118_66 =>
 nb (gd (strip t115_64) false (bi .lss .none t118_66 (.int .u8 128))) fun t119_67 =>
 nb (pick (strip t115_64) (.bool true) t119_67) fun t120_68 =>
 nb (gd (strip t120_68) false (M.pure (strip v0))) fun t122_69 =>
 nb (gd (strip t120_68) false (ixS t122_69 (.int .i64 2))) fun t123_70 =>
 nb (gd (strip t120_68) false (bi .lss .none (.int .u8 191) t123_70)) fun t124_71 =>
 nb (pick (strip t120_68) (.bool true) t124_71) fun t125_72 =>
 condM t125_72
 (M.pure (.bool false))
 (M.bind (slS (strip v0) (some (.int .i64 3)) none) fun t127_73 =>
 u02 t127_73 v2))
 (M.bind (bi .eql .none (strip t70_28) (.int .i64 4)) fun t129_74 =>
 condM t129_74
 (nb (lnS (strip v0)) fun t131_75 =>
 nb (bi .lss .none t131_75 (.int .i64 4)) fun t132_76 =>
 nb (gd (strip t132_76) false (M.pure (strip v0))) fun t134_77 =>
 nb (gd (strip t132_76) false (ixS t134_77 (.int .i64 1))) fun t135_78 =>
 nb (gd (strip t132_76) false (fa 0 t6_32)) fun t136_79 =>
 nb (gd (strip t132_76) false (ld none false t136_79)) fun t137_80 =>
 nb (gd (strip t132_76) false (bi .lss .none t135_78 t137_80)) fun t138_81 =>
 nb (pick (strip t132_76) (.bool true) t138_81) fun t139_82 =>
 nb (gd (strip t139_82) false (fa 1 t6_32)) fun t141_83 =>
 nb (gd (strip t139_82) false (ld none false t141_83)) fun t142_84 =>
 nb (gd (strip t139_82) false (M.pure (strip v0))) fun t143_85 =>
 nb (gd (strip t139_82) false (ixS t143_85 (.int .i64 1))) fun t144_86 =>
 nb (gd (strip t139_82) false (bi .lss .none t142_84 t144_86)) fun t145_87 =>
 nb (pick (strip t139_82) (.bool true) t145_87) fun t146_88 =>
 nb (gd (strip t146_88) false (M.pure (strip v0))) fun t148_89 =>
 nb (gd (strip t146_88) false (ixS t148_89 (.int .i64 2))) fun t149_90 =>
 nb (gd (strip t146_88) false (bi .lss .none t149_90 (.int .u8 128))) fun t150_91 =>
 nb (pick (strip t146_88) (.bool true) t150_91) fun t151_92 =>
 nb (gd (strip t151_92) false (M.pure (strip v0))) fun t153_93 =>
 nb (gd (strip t151_92) false (ixS t153_93 (.int .i64 2))) fun t154_94 =>
 nb (gd (strip t151_92) false (bi .lss .none (.int .u8 191) t154_94)) fun t155_95 =>
 nb (pick (strip t151_92) (.bool true) t155_95) fun t156_96 =>
 nb (gd (strip t156_96) false (M.pure (strip v0))) fun t158_97 =>
 nb (gd (strip t156_96) false (ixS t158_97 (.int .i64 3))) fun t159_98 =>
 nb (gd (strip t156_96) false (bi .lss .none t159_98 (.int .u8 128))) fun t160_99 =>
 nb (pick (strip t156_96) (.bool true) t160_99) fun t161_100 =>
 nb (gd (strip t161_100) false (M.pure (strip v0))) fun t163_101 =>
 nb (gd (strip t161_100) false (ixS t163_101 (.int .i64 3))) fun t164_102 =>
 nb (gd (strip t161_100) false (bi .lss .none (.int .u8 191) t164_102)) fun t165_103 =>
 nb (pick (strip t161_100) (.bool true) t165_103) fun t166_104 =>
 condM t166_104
 (M.pure (.bool false))
 (M.bind (slS (strip v0) (some (.int .i64 4)) none) fun t168_105 =>
 u02 t168_105 v2))
 (M.pure (.bool false))))))
 (M.pure (.bool true)) :=
 (u18 P X _ _ _).trans (by kernel_rfl)
theorem u04 (v0 v2 v3 : PV) : u0d v0 v2 v3 =
 u02 v0 v2 :=
 (u18 P X _ _ _).trans (by kernel_rfl)
theorem u1h (v0 v2 v3 : PV) : u09 v0 v2 v3 =
 nb (lnS (strip v0)) fun t43_0 =>
 nb (bi .gtr .none t43_0 (.int .i64 32)) fun t44_1 =>
 nb (gd (strip t44_1) true (M.pure (strip v0))) fun t46_2 =>
 nb (gd (strip t44_1) true (C u07 [(strip t46_2)])) fun t47_3 =>
 nb (gd (strip t44_1) true (M.pure (strip v0))) fun t48_4 =>
 nb (gd (strip t44_1) true (slS t48_4 (some (.int .i64 8)) none)) fun t49_5 =>
 nb (gd (strip t44_1) true (C u07 [(strip t49_5)])) fun t50_6 =>
 nb (gd (strip t44_1) true (bi .or .none t47_3 t50_6)) fun t51_7 =>
 nb (gd (strip t44_1) true (M.pure (strip v0))) fun t52_8 =>
 nb (gd (strip t44_1) true (slS t52_8 (some (.int .i64 16)) none)) fun t53_9 =>
 nb (gd (strip t44_1) true (C u07 [(strip t53_9)])) fun t54_10 =>
 nb (gd (strip t44_1) true (M.pure (strip v0))) fun t55_11 =>
 nb (gd (strip t44_1) true (slS t55_11 (some (.int .i64 24)) none)) fun t56_12 =>
 nb (gd (strip t44_1) true (C u07 [(strip t56_12)])) fun t57_13 =>
 nb (gd (strip t44_1) true (bi .or .none t54_10 t57_13)) fun t58_14 =>
 nb (gd (strip t44_1) true (bi .or .none t51_7 t58_14)) fun t59_15 =>
 nb (gd (strip t44_1) true (bi .and .none t59_15 (.int .u64 9259542123273814144))) fun t60_16 =>
 nb (gd (strip t44_1) true (bi .eql .none t60_16 (.int .u64 0))) fun t61_17 =>
 nb (pick (strip t44_1) t61_17 (.bool false)) fun t62_18 =>
 condM t62_18
 (M.bind (slS (strip v0) (some (.int .i64 32)) none) fun t64_19 =>
 u09 t64_19 v2 v3)
 (u0d v0 v2 v3) :=
 (u18 P X _ _ _).trans (by kernel_rfl)
theorem u30 (a0 : PV) : C u0h [a0] =
 trunc (u02 a0 (.bool false)) := by
 rw [C, u0z _ _ rfl]; kernel_rfl
end Go.Proofs.YtiamjepnlnjlfaaDoor.Pi.Q
namespace Go.Proofs.YtiamjepnlnjlfaaDoor.Pi.Q
open Go Go.Proofs.YtiamjepnlnjlfaaDoor.Pi
theorem u36 (a0 : PV) : C u07 [a0] =
 trunc (nb (ixS (strip a0) (.int .i64 0)) fun t22_0 =>
 nb (cv (.int .u64) true t22_0) fun t23_1 =>
 nb (ixS (strip a0) (.int .i64 1)) fun t25_2 =>
 nb (cv (.int .u64) true t25_2) fun t26_3 =>
 nb (bi .shl .none t26_3 (.int .u64 8)) fun t27_4 =>
 nb (bi .or .none t23_1 t27_4) fun t28_5 =>
 nb (ixS (strip a0) (.int .i64 2)) fun t30_6 =>
 nb (cv (.int .u64) true t30_6) fun t31_7 =>
 nb (bi .shl .none t31_7 (.int .u64 16)) fun t32_8 =>
 nb (bi .or .none t28_5 t32_8) fun t33_9 =>
 nb (ixS (strip a0) (.int .i64 3)) fun t35_10 =>
 nb (cv (.int .u64) true t35_10) fun t36_11 =>
 nb (bi .shl .none t36_11 (.int .u64 24)) fun t37_12 =>
 nb (bi .or .none t33_9 t37_12) fun t38_13 =>
 nb (ixS (strip a0) (.int .i64 4)) fun t40_14 =>
 nb (cv (.int .u64) true t40_14) fun t41_15 =>
 nb (bi .shl .none t41_15 (.int .u64 32)) fun t42_16 =>
 nb (bi .or .none t38_13 t42_16) fun t43_17 =>
 nb (ixS (strip a0) (.int .i64 5)) fun t45_18 =>
 nb (cv (.int .u64) true t45_18) fun t46_19 =>
 nb (bi .shl .none t46_19 (.int .u64 40)) fun t47_20 =>
 nb (bi .or .none t43_17 t47_20) fun t48_21 =>
 nb (ixS (strip a0) (.int .i64 6)) fun t50_22 =>
 nb (cv (.int .u64) true t50_22) fun t51_23 =>
 nb (bi .shl .none t51_23 (.int .u64 48)) fun t52_24 =>
 nb (bi .or .none t48_21 t52_24) fun t53_25 =>
 nb (ixS (strip a0) (.int .i64 7)) fun t55_26 =>
 nb (cv (.int .u64) true t55_26) fun t56_27 =>
 nb (bi .shl .none t56_27 (.int .u64 56)) fun t57_28 =>
 nb (bi .or .none t53_25 t57_28) fun t58_29 =>
 resT t58_29 (M.pure t58_29)) := by
 rw [C, u0z _ _ rfl]; kernel_rfl
end Go.Proofs.YtiamjepnlnjlfaaDoor.Pi.Q
namespace Go.Proofs.YtiamjepnlnjlfaaDoor.Pi.Q
open Go Go.Proofs.YtiamjepnlnjlfaaDoor.Pi
attribute [local congr] ite_congr
theorem ulv {len : Nat} {cs : List PV} {k : IntKind} {n : Int} {H : Heap} : run (ixA len 1 none (.agg cs) (.int k n)) H = if 0 ≤ n ∧ n < len then ldFR H (nth cs n.toNat) else none := by
  unfold run ixA fd
  by_cases h : 0 ≤ n ∧ n < len
  · have h1 : (decide (0 ≤ n) && decide (n < (len : Int))) = true := by simp [h]
    rw [if_pos h]
    simp only [h1, cond_true, Nat.mul_one, nth_is]
    cases nth cs n.toNat <;> rfl
  · have h1 : (decide (0 ≤ n) && decide (n < (len : Int))) = false := by
      rw [Bool.and_eq_false_iff]
      by_cases h0 : 0 ≤ n
      · right; simp; omega
      · left; simp; omega
    rw [if_neg h]
    simp only [h1, cond_false]
    rfl
end Go.Proofs.YtiamjepnlnjlfaaDoor.Pi.Q
namespace Go.Proofs.YtiamjepnlnjlfaaDoor.Pi.Q
open Go Go.Proofs.YtiamjepnlnjlfaaDoor.Pi
attribute [local congr] ite_congr
structure VT where
  num : Int
  nul : Bool
  heap : Int
  deriving DecidableEq
theorem ns (p : Nat) : ((p + 1 : Nat) : Int) = (p : Int) + 1 := rfl
end Go.Proofs.YtiamjepnlnjlfaaDoor.Pi.Q
namespace Go.Proofs.YtiamjepnlnjlfaaDoor.Pi.Q
open Go Go.Proofs.YtiamjepnlnjlfaaDoor.Pi
attribute [local congr] ite_congr
def accP (sz : Nat) (l : List PV) : PV := match l with | [] => .slice false true 0 [] | l => .slice true false sz l
theorem ap_acc {H : Heap} {sz b : Nat} {l : List PV} {v : PV} {o : Bool} (h : (l.length + 1) * max b 1 ≤ 140737488355328) :
    run (ap true sz b (accP sz l) (.slice o false sz [v])) H = some (.ok (accP sz (l ++ [v])) H) := by
  cases l with
  | nil =>
    unfold accP run ap tail growB
    have h2 : max b 1 ≤ 140737488355328 := by simpa using h
    simp [h2, M.pure]
  | cons x r =>
    unfold accP run ap tail growB
    have h2 : ((x :: r).length + [v].length) * max b 1 ≤ 140737488355328 := by simpa using h
    simp only [beq_self_eq_true, Bool.or_true, cond_true, cond_false, Bool.true_and, decide_eq_true h2]
    rfl
theorem bs_agg {H : Heap} {n : Nat} {cs : List PV} (h1 : flatL cs = true) (h2 : cs.length = n) : run (bs true (some n) [.agg cs]) H = some (.ok (.slice true false n [.agg cs]) H) := by
  unfold run bs u19
  have : (PV.agg cs).flat = true := by simp only [PV.flat]; exact h1
  simp [stripC, this, h2, M.pure]
theorem u20 {sz : Nat} {l : List PV} : isTup (accP sz l) = false := by unfold accP; split <;> rfl
theorem u2l {sz n : Nat} {l : List PV} : (accP sz l).low n = true := by unfold accP; split <;> simp [u42]
theorem ujk {sz : Nat} {l : List PV} : (accP sz l).cells = [accP sz l] := by unfold accP; split <;> rfl
theorem ugz {sz : Nat} {l : List PV} : isCell (accP sz l) = true := by unfold accP; split <;> rfl
structure BK where
  ty : Int
  res : VT
  deriving DecidableEq
end Go.Proofs.YtiamjepnlnjlfaaDoor.Pi.Q
namespace Go.Proofs.YtiamjepnlnjlfaaDoor.Pi.Q
open Go Go.Proofs.YtiamjepnlnjlfaaDoor.Pi
attribute [local congr] ite_congr
structure FT where
  ty : VT
  mu : Bool
  deriving DecidableEq
end Go.Proofs.YtiamjepnlnjlfaaDoor.Pi.Q
namespace Go.Proofs.YtiamjepnlnjlfaaDoor.Pi.Q
open Go Go.Proofs.YtiamjepnlnjlfaaDoor.Pi
attribute [local congr] ite_congr
def shutP (sz : Nat) (l : List PV) : PV := match l with | [] => .slice false true 0 [] | l => .slice false false sz l
theorem ujj {sz : Nat} {l : List PV} : strip (accP sz l) = shutP sz l := by cases l <;> rfl
theorem ugs {sz : Nat} {l : List PV} : stripC (accP sz l) = shutP sz l := by cases l <;> rfl
structure CT where
  kind : Int
  ps : List VT
  rs : List VT
  fs : List FT
  deriving DecidableEq
structure ST where
  fin : Bool
  sup : List Int
  comp : CT
  deriving DecidableEq
end Go.Proofs.YtiamjepnlnjlfaaDoor.Pi.Q
namespace Go.Proofs.YtiamjepnlnjlfaaDoor.Pi.Q
open Go Go.Proofs.YtiamjepnlnjlfaaDoor.Pi
attribute [local congr] ite_congr
def accB (b : List UInt8) : PV := accP 1 (bytes b)
theorem byt_of {n : Nat} (h : n < 256) : byt (UInt8.ofNat n) = .int .u8 n := by
  unfold byt
  rw [UInt8.toNat_ofNat', Nat.mod_eq_of_lt h]
theorem bs_byt {n : Nat} (h : n < 256) {K : Heap} : run (bs true none [.int .u8 n]) K = some (.ok (.slice true false 1 [byt (UInt8.ofNat n)]) K) := by
  rw [byt_of h]
  rfl
theorem u5r {n : Nat} (h : n < 256) {K : Heap} : bsR true none [.int .u8 n] K = some (.ok (.slice true false 1 [byt (UInt8.ofNat n)]) K) := by
  rw [byt_of h]
  rfl
theorem ap_B {acc : List UInt8} {c : UInt8} {K : Heap} (h : acc.length + 1 ≤ 140737488355328) : run (ap true 1 1 (accB acc) (.slice true false 1 [byt c])) K = some (.ok (accB (acc ++ [c])) K) := by
  have := ap_acc (H := K) (sz := 1) (b := 1) (l := bytes acc) (v := byt c) (o := true) (by simpa [bytes] using h)
  unfold accB
  rw [this]
  simp [bytes]
def putU (n : Nat) : List UInt8 := if n < 128 then [UInt8.ofNat n] else UInt8.ofNat (n % 128 + 128) :: putU (n / 128)
termination_by n
decreasing_by omega
theorem or128 : ∀ m : Fin 256, IntKind.u8.wrap (BitVec.ofInt 8 (m.val : Int) ||| BitVec.ofInt 8 128).toNat = ((m.val % 128 + 128 : Nat) : Int) := by decide +kernel
theorem umd (n : Nat) : bi .or .none (.int .u8 ((n % 256 : Nat) : Int)) (.int .u8 128) = M.pure (.int .u8 ((n % 128 + 128 : Nat) : Int)) := by
  rw [run_or]
  have := or128 ⟨n % 256, by omega⟩
  have e : n % 256 % 128 = n % 128 := by omega
  simp only [e] at this
  rw [show IntKind.u8.bits = 8 from rfl, this]
theorem shr7 (n : Nat) : bi .shr .none (.int .u64 (n : Int)) (.int .u64 7) = M.pure (.int .u64 ((n / 128 : Nat) : Int)) := by
  rw [uj3 (by omega)]
  have : (n : Int).fdiv (2 ^ shiftN .u64 7) = ((n / 128 : Nat) : Int) := by
    have e : (2 : Int) ^ shiftN .u64 7 = 128 := by decide
    rw [e]
    simp [Int.fdiv_eq_ediv]
  rw [this]
theorem ucw {H : Heap} {v2 : PV} : ∀ (m n : Nat) (acc : List UInt8), n < 128 ^ (m + 1) → n < 2 ^ 64 → acc.length + m < 1000 → run (u24 (.int .u64 n) v2 (accB acc)) H = some (.ok (accB (acc ++ putU n)) H)
  | m, n, acc, h, hn, hl => by
    have hap := fun c K => ap_B (acc := acc) (c := c) (K := K) (by omega)
    have ht : isTup (accB (acc ++ [UInt8.ofNat n])) = false := u20
    by_cases h1 : n < 128
    · have c1 : ¬ (127 : Int) < n := by omega
      have hbs := fun K => u5r (n := n) (by omega) (K := K)
      rw [u3d, putU, if_pos h1]
      simp +contextual -dsimp (disch := omega) only [↓goDown, goUp, cr, simprocAttr, c1, hbs, hap, ht]
    · cases m with
      | zero => simp at h; omega
      | succ m =>
        have c1 : (127 : Int) < n := by omega
        have hw : IntKind.u8.wrap (n : Int) = ((n % 256 : Nat) : Int) := by rw [show IntKind.u8.wrap (n : Int) = (n : Int) % 256 from rfl]; omega
        have hbs := fun K => u5r (n := n % 128 + 128) (by omega) (K := K)
        have ih := ucw (H := H) (v2 := v2) m (n / 128) (acc ++ [UInt8.ofNat (n % 128 + 128)]) (by
          have : 128 ^ (m + 1 + 1) = 128 ^ (m + 1) * 128 := Nat.pow_succ ..
          exact Nat.div_lt_of_lt_mul (by omega)) (by omega) (by simp; omega)
        rw [u3d, putU, if_neg h1]
        simp +contextual -dsimp (disch := omega) only [↓goDown, goUp, cr, simprocAttr, c1, hw, umd, shr7, hbs, hap]
        rw [ih]
        simp
theorem uju {H : Heap} {n : Nat} (hn : n < 2 ^ 64) : run (C u3i [.int .u64 n]) H = some (.ok (accB (putU n)) H) := by
  rw [udq]
  have h := ucw (H := H) (v2 := .slice false true 0 []) 9 n [] (by omega) hn (by simp)
  have h : run (u24 (.int .u64 n) (.slice false true 0 []) (.slice false true 0 [])) H = some (.ok (accB (putU n)) H) := h
  have hl : ∀ k, (accB (putU n)).low k = true := fun k => u2l
  simp +contextual -dsimp (disch := omega) only [↓goDown, goUp, cr, simprocAttr, h, hl]
theorem u94 {H : Heap} {v2 : PV} : ∀ (m n : Nat) (acc : List UInt8), n < 128 ^ (m + 1) → n < 2 ^ 64 → acc.length + m < 1000 → run (u0y (.int .u64 n) v2 (accB acc)) H = some (.ok (accB (acc ++ putU n)) H)
  | m, n, acc, h, hn, hl => by
    have hap := fun c K => ap_B (acc := acc) (c := c) (K := K) (by omega)
    have ht : isTup (accB (acc ++ [UInt8.ofNat n])) = false := u20
    by_cases h1 : n < 128
    · have c1 : ¬ (128 : Int) ≤ n := by omega
      have hbs := fun K => u5r (n := n) (by omega) (K := K)
      rw [u22, putU, if_pos h1]
      simp +contextual -dsimp (disch := omega) only [↓goDown, goUp, cr, simprocAttr, c1, hbs, hap, ht]
    · cases m with
      | zero => simp at h; omega
      | succ m =>
        have c1 : (128 : Int) ≤ n := by omega
        have hrem : (n : Int).tmod 128 = ((n % 128 : Nat) : Int) := rfl
        have hquo : (n : Int).tdiv 128 = ((n / 128 : Nat) : Int) := rfl
        have hadd : ((n % 128 : Nat) : Int) + 128 = ((n % 128 + 128 : Nat) : Int) := rfl
        have hbs := fun K => u5r (n := n % 128 + 128) (by omega) (K := K)
        have ih := u94 (H := H) (v2 := v2) m (n / 128) (acc ++ [UInt8.ofNat (n % 128 + 128)]) (by
          have : 128 ^ (m + 1 + 1) = 128 ^ (m + 1) * 128 := Nat.pow_succ ..
          exact Nat.div_lt_of_lt_mul (by omega)) (by omega) (by simp; omega)
        rw [u22, putU, if_neg h1]
        simp +contextual -dsimp (disch := omega) only [↓goDown, goUp, cr, simprocAttr, c1, hrem, hquo, hadd, hbs, hap]
        rw [ih]
        simp
theorem ufr {H : Heap} {n : Nat} (hn : n < 2 ^ 64) : run (C u1e [.int .u64 n]) H = some (.ok (accB (putU n)) H) := by
  rw [u4p]
  have h := u94 (H := H) (v2 := .slice false true 0 []) 9 n [] (by omega) hn (by simp)
  have h : run (u0y (.int .u64 n) (.slice false true 0 []) (.slice false true 0 [])) H = some (.ok (accB (putU n)) H) := h
  have hl : ∀ k, (accB (putU n)).low k = true := fun k => u2l
  simp +contextual -dsimp (disch := omega) only [↓goDown, goUp, cr, simprocAttr, h, hl]
theorem ap_BB {acc u : List UInt8} {K : Heap} (hu : u ≠ []) (h : acc.length + u.length ≤ 140737488355328) : run (ap true 1 1 (accB acc) (accB u)) K = some (.ok (accB (acc ++ u)) K) := by
  obtain ⟨x, r, rfl⟩ := List.exists_cons_of_ne_nil hu
  cases acc with
  | nil =>
    unfold accB accP run ap tail growB
    have h2 : (byt x :: bytes r).length * max 1 1 ≤ 140737488355328 := by simpa [bytes] using h
    simp only [bytes, List.map_cons, List.map_nil, List.nil_append, beq_self_eq_true, Bool.or_true, cond_true, List.isEmpty_cons, cond_false] at h2 ⊢
    rw [decide_eq_true h2]
    rfl
  | cons y a =>
    unfold accB accP run ap tail growB
    have h2 : ((byt y :: bytes a).length + (byt x :: bytes r).length) * max 1 1 ≤ 140737488355328 := by simpa [bytes] using h
    simp only [bytes, List.map_cons, List.cons_append, List.map_append, beq_self_eq_true, Bool.or_true, cond_true, cond_false, Bool.true_and] at h2 ⊢
    rw [decide_eq_true h2]
    rfl
theorem uar {n : Nat} : putU n ≠ [] := by
  rw [putU]
  split <;> simp
theorem uew : ∀ (m n : Nat), n < 128 ^ (m + 1) → (putU n).length ≤ m + 1
  | m, n, h => by
    rw [putU]
    split
    · simp
    · cases m with
      | zero => simp at h; omega
      | succ m =>
        have := uew m (n / 128) (by
          have : 128 ^ (m + 1 + 1) = 128 ^ (m + 1) * 128 := Nat.pow_succ ..
          exact Nat.div_lt_of_lt_mul (by omega))
        simp only [List.length_cons]
        omega
theorem u47 {n : Nat} (h : n < 2 ^ 64) : (putU n).length ≤ 10 := uew 9 n (by omega)
end Go.Proofs.YtiamjepnlnjlfaaDoor.Pi.Q
namespace Go.Proofs.YtiamjepnlnjlfaaDoor.Pi.Q
open Go Go.Proofs.YtiamjepnlnjlfaaDoor.Pi
attribute [local congr] ite_congr
inductive Wr where
  | ok (u : List UInt8)
  | err (w : Nat)
end Go.Proofs.YtiamjepnlnjlfaaDoor.Pi.Q
namespace Go.Proofs.YtiamjepnlnjlfaaDoor.Pi.Q
open Go Go.Proofs.YtiamjepnlnjlfaaDoor.Pi
theorem uai (c : Nat) : Lib.firstT c < 256 := by
  unfold Lib.firstT
  repeat' split
  all_goals omega
attribute [local congr] ite_congr
variable {H : Heap} {z : Bool}
theorem ue2 : ∀ c ∈ List.range 256, firstC.drop c = .int .u8 (Lib.firstT c) :: firstC.drop (c + 1) := fun c hc => by
  have hl : firstC.length = 256 := by unfold firstC; rw [List.length_map, List.length_range]
  have h : c < firstC.length := by rw [hl]; exact List.mem_range.mp hc
  rw [List.drop_eq_getElem_cons h]
  congr 1
  simp [firstC]
theorem ujn {c : Nat} (h : c < 256) : run (iaA 256 1 (GT 0) (.int .u8 c)) H = some (.ok (.elem (.int .u8 (Lib.firstT c) :: firstC.drop (c + 1))) H) := by
  rw [GT_0, ← ue2 c (List.mem_range.mpr h)]
  unfold run iaA
  have h1 : decide ((0 : Int) ≤ (c : Int)) = true := decide_eq_true (by omega)
  have h2 : decide ((c : Int) < ((256 : Nat) : Int)) = true := decide_eq_true (by omega)
  simp only [h1, h2, Bool.and_self, cond_true, Int.toNat_natCast, Nat.mul_one, M.pure]
theorem ujo : ∀ i ∈ List.range 16, accC.drop (i * 2) = .int .u8 (Lib.accLo i) :: .int .u8 (Lib.accHi i) :: accC.drop (i * 2 + 2) := by
  intro i hi
  have h := List.mem_range.mp hi
  have : i = 0 ∨ i = 1 ∨ i = 2 ∨ i = 3 ∨ i = 4 ∨ i = 5 ∨ i = 6 ∨ i = 7 ∨ i = 8 ∨ i = 9 ∨ i = 10 ∨ i = 11 ∨ i = 12 ∨ i = 13 ∨ i = 14 ∨ i = 15 := by omega
  rcases this with rfl | rfl | rfl | rfl | rfl | rfl | rfl | rfl | rfl | rfl | rfl | rfl | rfl | rfl | rfl | rfl <;> rfl
theorem um3 {i : Nat} (h : i < 16) : run (iaA 16 2 (GT 1) (.int .u8 i)) H = some (.ok (.elem (.int .u8 (Lib.accLo i) :: .int .u8 (Lib.accHi i) :: accC.drop (i * 2 + 2))) H) := by
  rw [GT_1, ← ujo i (List.mem_range.mpr h)]
  unfold run iaA
  have h1 : decide ((0 : Int) ≤ (i : Int)) = true := decide_eq_true (by omega)
  have h2 : decide ((i : Int) < ((16 : Nat) : Int)) = true := decide_eq_true (by omega)
  simp only [h1, h2, Bool.and_self, cond_true, Int.toNat_natCast, M.pure]
theorem and7 : ∀ n ∈ List.range 256, bi .and .none (.int .u8 (n : Nat)) (.int .u8 7) = M.pure (.int .u8 ((n % 8 : Nat) : Int)) := by
  intro n hn
  have h := List.mem_range.mp hn
  rw [uj5]
  have : (BitVec.ofInt IntKind.u8.bits (n : Int) &&& BitVec.ofInt IntKind.u8.bits 7).toNat = n % 8 := by
    rw [BitVec.toNat_and, BitVec.toNat_ofInt, BitVec.toNat_ofInt, show IntKind.u8.bits = 8 from rfl]
    rw [show ((7 : Int) % ((2 ^ 8 : Nat) : Int)).toNat = 2 ^ 3 - 1 from rfl, Nat.and_two_pow_sub_one_eq_mod]
    omega
  rw [this, w_u8 (by omega)]
theorem ulu {c : Nat} : bi .and .none (.int .u8 (Lib.firstT c : Nat)) (.int .u8 7) = M.pure (.int .u8 ((Lib.firstT c % 8 : Nat) : Int)) := and7 _ (List.mem_range.mpr (uai c))
theorem um9 {n : Nat} (h : n < 256) : bi .shr .none (.int .u8 (n : Nat)) (.int .u64 4) = M.pure (.int .u8 ((n / 16 : Nat) : Int)) := by
  rw [uj3 (by omega), show shiftN .u8 4 = 4 from rfl, Int.fdiv_eq_ediv_of_nonneg _ (by omega)]
  congr 2
def fullN (n c0 c1 c2 : Nat) : Bool :=
  if n = 0 then false else if Lib.firstT c0 % 8 ≤ n then true
  else if 1 < n ∧ (c1 < Lib.accLo (Lib.firstT c0 / 16) ∨ Lib.accHi (Lib.firstT c0 / 16) < c1) then true
  else decide (2 < n ∧ (c2 < 128 ∨ 191 < c2))
def bN (p : List UInt8) (i : Nat) : Nat := (p.getD i 0).toNat
theorem bN_lt {p : List UInt8} {i : Nat} : bN p i < 256 := (p.getD i 0).toNat_lt
theorem iaB {p : List UInt8} {i : Nat} (h : i < p.length) : run (iaS 1 (BS z p) (.int .i64 i)) H = some (.ok (.elem [.int .u8 (bN p i : Nat)]) H) := by
  rw [uav (by omega), Int.toNat_natCast, umg h]
  unfold bN byt
  rw [List.getD_eq_getElem?_getD, List.getElem?_eq_getElem h]
  rfl
end Go.Proofs.YtiamjepnlnjlfaaDoor.Pi.Q
namespace Go.Proofs.YtiamjepnlnjlfaaDoor.Pi.Q
open Go Go.Proofs.YtiamjepnlnjlfaaDoor.Pi
def letN (n c0 c1 c2 c3 : Nat) : Nat :=
  if c0 < 128 then 1 else if 240 ≤ Lib.firstT c0 then 0 else if n < Lib.firstT c0 % 8 then 0
  else if c1 < Lib.accLo (Lib.firstT c0 / 16) ∨ Lib.accHi (Lib.firstT c0 / 16) < c1 then 0 else if Lib.firstT c0 % 8 ≤ 2 then 2
  else if c2 < 128 ∨ 191 < c2 then 0 else if Lib.firstT c0 % 8 ≤ 3 then 3 else if c3 < 128 ∨ 191 < c3 then 0 else 4
theorem ua3 {c : Nat} (h0 : 128 ≤ c) (h : 240 ≤ Lib.firstT c) : Lib.firstT c = 241 := by
  unfold Lib.firstT at h ⊢
  repeat' split
  all_goals first | rfl | (exfalso; omega) | skip
  all_goals (repeat' split at h) <;> first | rfl | omega
theorem u7c {c : Nat} (h0 : 128 ≤ c) (h : ¬ 240 ≤ Lib.firstT c) : Lib.firstT c % 8 = 2 ∨ Lib.firstT c % 8 = 3 ∨ Lib.firstT c % 8 = 4 := by
  unfold Lib.firstT at h ⊢
  repeat' split
  all_goals first | omega | (exfalso; repeat' split at h) <;> omega
attribute [local congr] ite_congr
variable {H : Heap} {z : Bool}
def letL (p : List UInt8) : Nat := letN p.length (bN p 0) (bN p 1) (bN p 2) (bN p 3)
end Go.Proofs.YtiamjepnlnjlfaaDoor.Pi.Q
namespace Go.Proofs.YtiamjepnlnjlfaaDoor.Pi.Q
open Go Go.Proofs.YtiamjepnlnjlfaaDoor.Pi
theorem uht {n c0 c1 c2 c3 : Nat} (h0 : 128 ≤ c0) : letN n c0 c1 c2 c3 = (Lib.checkN n c1 c2 c3 (Lib.firstT c0 % 8) (Lib.accLo (Lib.firstT c0 / 16)) (Lib.accHi (Lib.firstT c0 / 16))).getD 0 := by
  unfold letN
  rw [if_neg (by omega)]
  by_cases hx : 240 ≤ Lib.firstT c0
  · rw [if_pos hx, ua3 h0 hx]
    rfl
  · have hm := u7c h0 hx
    rw [if_neg hx]
    generalize Lib.accLo (Lib.firstT c0 / 16) = lo
    generalize Lib.accHi (Lib.firstT c0 / 16) = hi
    generalize Lib.firstT c0 % 8 = s at *
    unfold Lib.checkN
    rcases hm with rfl | rfl | rfl <;> simp only [Nat.reduceEqDiff, Nat.reduceLeDiff, ↓reduceIte] <;> repeat' split
    all_goals first | rfl | (exfalso; omega)
end Go.Proofs.YtiamjepnlnjlfaaDoor.Pi.Q
namespace Go.Proofs.YtiamjepnlnjlfaaDoor.Pi.Q
open Go Go.Proofs.YtiamjepnlnjlfaaDoor.Pi
def opF (c0 c1 c2 : Nat) : Nat → Nat
  | 0 => 0
  | n + 1 => if n + 1 < 4 ∧ fullN (n + 1) c0 c1 c2 = false then n + 1 else opF c0 c1 c2 n
attribute [local congr] ite_congr
variable {H : Heap} {z : Bool}
def badAt (b : List UInt8) : Nat → Nat → Option Nat
  | 0, _ => none
  | f + 1, a => if a < b.length then (if letL (b.drop a) = 0 then some (a + opF (bN b a) (bN b (a + 1)) (bN b (a + 2)) (min 4 (b.length - a))) else badAt b f (a + letL (b.drop a))) else none
def utfR (o : Option Nat) : PV := match o with | none => .tup [.int .i64 0, .bool true] | some a => .tup [.int .i64 a, .bool false]
theorem ulr {b : List UInt8} {a i : Nat} : bN (b.drop a) i = bN b (a + i) := by
  unfold bN
  rw [List.getD_eq_getElem?_getD, List.getD_eq_getElem?_getD, List.getElem?_drop]
theorem u0e {b : List UInt8} : (ByteArray.mk ⟨b⟩).size = b.length := rfl
end Go.Proofs.YtiamjepnlnjlfaaDoor.Pi.Q
namespace Go.Proofs.YtiamjepnlnjlfaaDoor.Pi.Q
open Go Go.Proofs.YtiamjepnlnjlfaaDoor.Pi
theorem u7j : ∀ u : List UInt8, u33 (bytes u) = some u
  | [] => rfl
  | c :: r => by
    have ih := u7j r
    have e : u33 (bytes (c :: r)) = (u33 (bytes r)).map (UInt8.ofNat ((c.toNat : Int)).toNat :: ·) := rfl
    rw [e, ih]
    simp
attribute [local congr] ite_congr
variable {H : Heap} {z : Bool}
theorem um4 {o : Option Nat} {n : Nat} : (utfR o).low n = true := by cases o <;> simp [utfR, u8e, u3p, u34, u51, u6k]
def utfN (b : List UInt8) : Option Nat := badAt b (b.length + 1) 0
end Go.Proofs.YtiamjepnlnjlfaaDoor.Pi.Q
namespace Go.Proofs.YtiamjepnlnjlfaaDoor.Pi.Q
open Go Go.Proofs.YtiamjepnlnjlfaaDoor.Pi
def ltN (c : Nat) : Nat := if c < 128 then 1 else if 194 ≤ c ∧ c ≤ 223 then 2 else if 224 ≤ c ∧ c ≤ 239 then 3 else if 240 ≤ c ∧ c ≤ 244 then 4 else 0
def loR (f k : Nat) : Nat := if k = 1 then (if f = 224 then 160 else if f = 240 then 144 else 128) else 128
def hiR (f k : Nat) : Nat := if k = 1 then (if f = 237 then 159 else if f = 244 then 143 else 191) else 191
def folR (f k c : Nat) : Bool := decide (loR f k ≤ c ∧ c ≤ hiR f k)
theorem ukr : ∀ c ∈ List.range 256, ltN c = (if c < 128 then 1 else if 240 ≤ Lib.firstT c then 0 else Lib.firstT c % 8) ∧ (128 ≤ c → ¬ 240 ≤ Lib.firstT c → Lib.accLo (Lib.firstT c / 16) = loR c 1 ∧ Lib.accHi (Lib.firstT c / 16) = hiR c 1) := by decide +kernel
def goR (b : List UInt8) (a n : Nat) : Nat → Nat → Option Nat
  | 0, _ => none
  | f + 1, k => if k < n then (if b.length ≤ a + k then some b.length else if folR (bN b a) k (bN b (a + k)) = false then some (a + k) else goR b a n f (k + 1)) else none
def badR (b : List UInt8) : Nat → Nat → Option Nat
  | 0, _ => none
  | f + 1, a => if a < b.length then (if ltN (bN b a) = 0 then some a else match goR b a (ltN (bN b a)) 5 1 with | some x => some x | none => badR b f (a + ltN (bN b a))) else none
theorem uaj {n c0 c1 c2 : Nat} (h0 : n ≠ 0) : fullN n c0 c1 c2 = false ↔ (n < Lib.firstT c0 % 8 ∧ (1 < n → Lib.accLo (Lib.firstT c0 / 16) ≤ c1 ∧ c1 ≤ Lib.accHi (Lib.firstT c0 / 16)) ∧ (2 < n → 128 ≤ c2 ∧ c2 ≤ 191)) := by
  unfold fullN
  rw [if_neg h0]
  by_cases h1 : Lib.firstT c0 % 8 ≤ n
  · rw [if_pos h1]; simp; omega
  · rw [if_neg h1]
    by_cases h2 : 1 < n ∧ (c1 < Lib.accLo (Lib.firstT c0 / 16) ∨ Lib.accHi (Lib.firstT c0 / 16) < c1)
    · rw [if_pos h2]; simp; omega
    · rw [if_neg h2, decide_eq_false_iff_not]
      omega
theorem opF_is {c0 c1 c2 m : Nat} (hm : m ≤ 4) : opF c0 c1 c2 m = if m = 0 ∨ Lib.firstT c0 % 8 ≤ 1 then 0 else if m = 1 ∨ Lib.firstT c0 % 8 ≤ 2 ∨ c1 < Lib.accLo (Lib.firstT c0 / 16) ∨ Lib.accHi (Lib.firstT c0 / 16) < c1 then 1
    else if m = 2 ∨ Lib.firstT c0 % 8 ≤ 3 ∨ c2 < 128 ∨ 191 < c2 then 2 else 3 := by
  have n1 := uaj (n := 1) (c0 := c0) (c1 := c1) (c2 := c2) (by decide)
  have n2 := uaj (n := 2) (c0 := c0) (c1 := c1) (c2 := c2) (by decide)
  have n3 := uaj (n := 3) (c0 := c0) (c1 := c1) (c2 := c2) (by decide)
  generalize fullN 1 c0 c1 c2 = f1 at *
  have hx := uai c0
  have h : m = 0 ∨ m = 1 ∨ m = 2 ∨ m = 3 ∨ m = 4 := by omega
  have u0 : opF c0 c1 c2 0 = 0 := rfl
  have u1 : opF c0 c1 c2 1 = if fullN 1 c0 c1 c2 = false then 1 else 0 := by rw [opF]; simp [u0]
  have u2 : opF c0 c1 c2 2 = if fullN 2 c0 c1 c2 = false then 2 else opF c0 c1 c2 1 := by rw [opF]; simp
  have u3 : opF c0 c1 c2 3 = if fullN 3 c0 c1 c2 = false then 3 else opF c0 c1 c2 2 := by rw [opF]; simp
  have u4 : opF c0 c1 c2 4 = opF c0 c1 c2 3 := by rw [opF]; simp
  have n1' := uaj (n := 1) (c0 := c0) (c1 := c1) (c2 := c2) (by decide)
  generalize Lib.accLo (Lib.firstT c0 / 16) = lo at *
  generalize Lib.accHi (Lib.firstT c0 / 16) = hi at *
  generalize Lib.firstT c0 % 8 = s at *
  rcases h with rfl | rfl | rfl | rfl | rfl
  · rw [u0, if_pos (.inl rfl)]
  · rw [u1]
    by_cases g : fullN 1 c0 c1 c2 = false
    · rw [if_pos g, if_neg (by have := n1'.mp g; omega), if_pos (.inl rfl)]
    · rw [if_neg g, if_pos (Classical.byContradiction fun q => g (n1'.mpr (by omega)))]
  · rw [u2, u1]
    by_cases g : fullN 2 c0 c1 c2 = false
    · have := n2.mp g
      rw [if_pos g, if_neg (by omega), if_neg (by omega), if_pos (by omega)]
    · have q2 : ¬ _ := fun q => g (n2.mpr q)
      rw [if_neg g]
      by_cases g1 : fullN 1 c0 c1 c2 = false
      · have := n1'.mp g1
        rw [if_pos g1, if_neg (by omega), if_pos (by omega)]
      · have q1 : ¬ _ := fun q => g1 (n1'.mpr q)
        rw [if_neg g1, if_pos (by omega)]
  · rw [u3, u2, u1]
    by_cases g3 : fullN 3 c0 c1 c2 = false
    · have := n3.mp g3
      rw [if_pos g3, if_neg (by omega), if_neg (by omega), if_neg (by omega)]
    · have q3 : ¬ _ := fun q => g3 (n3.mpr q)
      rw [if_neg g3]
      by_cases g : fullN 2 c0 c1 c2 = false
      · have := n2.mp g
        rw [if_pos g, if_neg (by omega), if_neg (by omega), if_pos (by omega)]
      · have q2 : ¬ _ := fun q => g (n2.mpr q)
        rw [if_neg g]
        by_cases g1 : fullN 1 c0 c1 c2 = false
        · have := n1'.mp g1
          rw [if_pos g1, if_neg (by omega), if_pos (by omega)]
        · have q1 : ¬ _ := fun q => g1 (n1'.mpr q)
          rw [if_neg g1, if_pos (by omega)]
  · rw [u4, u3, u2, u1]
    by_cases g3 : fullN 3 c0 c1 c2 = false
    · have := n3.mp g3
      rw [if_pos g3, if_neg (by omega), if_neg (by omega), if_neg (by omega)]
    · have q3 : ¬ _ := fun q => g3 (n3.mpr q)
      rw [if_neg g3]
      by_cases g : fullN 2 c0 c1 c2 = false
      · have := n2.mp g
        rw [if_pos g, if_neg (by omega), if_neg (by omega), if_pos (by omega)]
      · have q2 : ¬ _ := fun q => g (n2.mpr q)
        rw [if_neg g]
        by_cases g1 : fullN 1 c0 c1 c2 = false
        · have := n1'.mp g1
          rw [if_pos g1, if_neg (by omega), if_pos (by omega)]
        · have q1 : ¬ _ := fun q => g1 (n1'.mpr q)
          rw [if_neg g1, if_pos (by omega)]
end Go.Proofs.YtiamjepnlnjlfaaDoor.Pi.Q
namespace Go.Proofs.YtiamjepnlnjlfaaDoor.Pi.Q
open Go Go.Proofs.YtiamjepnlnjlfaaDoor.Pi
theorem fol_no {f k c : Nat} : folR f k c = false ↔ c < loR f k ∨ hiR f k < c := by
  unfold folR
  rw [decide_eq_false_iff_not]
  omega
theorem lo_2 {f k : Nat} (h : k ≠ 1) : loR f k = 128 := by unfold loR; rw [if_neg h]
theorem hi_2 {f k : Nat} (h : k ≠ 1) : hiR f k = 191 := by unfold hiR; rw [if_neg h]
theorem goR_s {b : List UInt8} {a n f k : Nat} : goR b a n (f + 1) k = if k < n then (if b.length ≤ a + k then some b.length else if folR (bN b a) k (bN b (a + k)) = false then some (a + k) else goR b a n f (k + 1)) else none := rfl
theorem go_2 {b : List UInt8} {a : Nat} : goR b a 2 5 1 = if b.length ≤ a + 1 then some b.length else if folR (bN b a) 1 (bN b (a + 1)) = false then some (a + 1) else none := by
  rw [goR_s, if_pos (show 1 < 2 by decide), show goR b a 2 4 (1 + 1) = none from by rw [goR_s, if_neg (show ¬ 1 + 1 < 2 by decide)]]
theorem go_3 {b : List UInt8} {a : Nat} : goR b a 3 5 1 = if b.length ≤ a + 1 then some b.length else if folR (bN b a) 1 (bN b (a + 1)) = false then some (a + 1) else if b.length ≤ a + 2 then some b.length else if folR (bN b a) 2 (bN b (a + 2)) = false then some (a + 2) else none := by
  rw [goR_s, if_pos (show 1 < 3 by decide)]
  rw [show goR b a 3 4 (1 + 1) = if b.length ≤ a + 2 then some b.length else if folR (bN b a) 2 (bN b (a + 2)) = false then some (a + 2) else none from by
    rw [goR_s, if_pos (show 1 + 1 < 3 by decide), show goR b a 3 3 (1 + 1 + 1) = none from by rw [goR_s, if_neg (show ¬ 1 + 1 + 1 < 3 by decide)]]]
theorem go_4 {b : List UInt8} {a : Nat} : goR b a 4 5 1 = if b.length ≤ a + 1 then some b.length else if folR (bN b a) 1 (bN b (a + 1)) = false then some (a + 1) else if b.length ≤ a + 2 then some b.length else if folR (bN b a) 2 (bN b (a + 2)) = false then some (a + 2) else if b.length ≤ a + 3 then some b.length else if folR (bN b a) 3 (bN b (a + 3)) = false then some (a + 3) else none := by
  rw [goR_s, if_pos (show 1 < 4 by decide)]
  rw [show goR b a 4 4 (1 + 1) = if b.length ≤ a + 2 then some b.length else if folR (bN b a) 2 (bN b (a + 2)) = false then some (a + 2) else if b.length ≤ a + 3 then some b.length else if folR (bN b a) 3 (bN b (a + 3)) = false then some (a + 3) else none from by
    rw [goR_s, if_pos (show 1 + 1 < 4 by decide)]
    rw [show goR b a 4 3 (1 + 1 + 1) = if b.length ≤ a + 3 then some b.length else if folR (bN b a) 3 (bN b (a + 3)) = false then some (a + 3) else none from by
      rw [goR_s, if_pos (show 1 + 1 + 1 < 4 by decide), show goR b a 4 2 (1 + 1 + 1 + 1) = none from by rw [goR_s, if_neg (show ¬ 1 + 1 + 1 + 1 < 4 by decide)]]]]
theorem fin0 {G : Option Nat} {a x V O s k : Nat} (hs : s ≠ 0) (h1 : G = some x) (h2 : V = 0) (h3 : O = k) (h4 : x = a + k) : (if s = 0 then some a else G) = (if V = 0 then some (a + O) else none) ∧ (V ≠ 0 → V = s) := by
  rw [if_neg hs, if_pos h2, h1, h3, h4]
  exact ⟨rfl, fun h => absurd h2 h⟩
theorem fin1 {G : Option Nat} {a V O s : Nat} (hs : s ≠ 0) (h1 : G = none) (h2 : V = s) : (if s = 0 then some a else G) = (if V = 0 then some (a + O) else none) ∧ (V ≠ 0 → V = s) := by
  rw [if_neg hs, if_neg (by omega), h1]
  exact ⟨rfl, fun _ => h2⟩
theorem ulq {b : List UInt8} {a : Nat} (ha : a < b.length) :
    (if ltN (bN b a) = 0 then some a else goR b a (ltN (bN b a)) 5 1) = (if letL (b.drop a) = 0 then some (a + opF (bN b a) (bN b (a + 1)) (bN b (a + 2)) (min 4 (b.length - a))) else none) ∧ (letL (b.drop a) ≠ 0 → letL (b.drop a) = ltN (bN b a)) := by
  have hm : min 4 (b.length - a) ≤ 4 := by omega
  rw [opF_is hm]
  unfold letL
  simp only [ulr, List.length_drop, Nat.add_zero]
  obtain ⟨h1, h2⟩ := ukr (bN b a) (List.mem_range.mpr bN_lt)
  unfold letN
  by_cases h0 : bN b a < 128
  · rw [if_pos h0] at h1
    rw [h1, if_pos h0]
    exact ⟨rfl, fun _ => rfl⟩
  · rw [if_neg h0] at h1 ⊢
    by_cases hx : 240 ≤ Lib.firstT (bN b a)
    · rw [if_pos hx] at h1
      rw [h1, if_pos hx, ua3 (by omega) hx]
      simp
    · obtain ⟨l1, l2⟩ := h2 (by omega) hx
      rw [if_neg hx] at h1
      have hs := u7c (by omega) hx
      rw [if_neg hx, l1, l2, h1]
      have g1 := fol_no (f := bN b a) (k := 1) (c := bN b (a + 1))
      have g2 := fol_no (f := bN b a) (k := 2) (c := bN b (a + 2))
      have g3 := fol_no (f := bN b a) (k := 3) (c := bN b (a + 3))
      rw [lo_2 (by decide), hi_2 (by decide)] at g2 g3
      generalize loR (bN b a) 1 = lo at *
      generalize hiR (bN b a) 1 = hi at *
      have g20 := go_2 (b := b) (a := a)
      have g30 := go_3 (b := b) (a := a)
      have g40 := go_4 (b := b) (a := a)
      generalize b.length = L at *
      generalize folR (bN b a) 1 (bN b (a + 1)) = k1 at *
      generalize folR (bN b a) 2 (bN b (a + 2)) = k2 at *
      generalize folR (bN b a) 3 (bN b (a + 3)) = k3 at *
      generalize bN b (a + 1) = c1 at *
      generalize bN b (a + 2) = c2 at *
      generalize bN b (a + 3) = c3 at *
      clear h2 l1 l2
      generalize Lib.firstT (bN b a) % 8 = s at *
      clear h1 hx h0
      rcases hs with rfl | rfl | rfl
      · by_cases n1 : L ≤ a + 1
        · exact fin0 (x := L) (k := 1) (by decide) (by rw [g20, if_pos n1]) (by (repeat' split); all_goals omega) (by (repeat' split); all_goals omega) (by omega)
        · by_cases q1 : c1 < lo ∨ hi < c1
          · exact fin0 (x := a + 1) (k := 1) (by decide) (by rw [g20, if_neg n1, if_pos (g1.mpr q1)]) (by (repeat' split); all_goals omega) (by (repeat' split); all_goals omega) (by omega)
          · exact fin1 (by decide) (by rw [g20, if_neg n1, if_neg (fun h => q1 (g1.mp h))]) (by (repeat' split); all_goals omega)
      · by_cases n1 : L ≤ a + 1
        · exact fin0 (x := L) (k := 1) (by decide) (by rw [g30, if_pos n1]) (by (repeat' split); all_goals omega) (by (repeat' split); all_goals omega) (by omega)
        · by_cases q1 : c1 < lo ∨ hi < c1
          · exact fin0 (x := a + 1) (k := 1) (by decide) (by rw [g30, if_neg n1, if_pos (g1.mpr q1)]) (by (repeat' split); all_goals omega) (by (repeat' split); all_goals omega) (by omega)
          · skip
            by_cases n2 : L ≤ a + 2
            · exact fin0 (x := L) (k := 2) (by decide) (by rw [g30, if_neg n1, if_neg (fun h => q1 (g1.mp h)), if_pos n2]) (by (repeat' split); all_goals omega) (by (repeat' split); all_goals omega) (by omega)
            · by_cases q2 : c2 < 128 ∨ 191 < c2
              · exact fin0 (x := a + 2) (k := 2) (by decide) (by rw [g30, if_neg n1, if_neg (fun h => q1 (g1.mp h)), if_neg n2, if_pos (g2.mpr q2)]) (by (repeat' split); all_goals omega) (by (repeat' split); all_goals omega) (by omega)
              · exact fin1 (by decide) (by rw [g30, if_neg n1, if_neg (fun h => q1 (g1.mp h)), if_neg n2, if_neg (fun h => q2 (g2.mp h))]) (by (repeat' split); all_goals omega)
      · by_cases n1 : L ≤ a + 1
        · exact fin0 (x := L) (k := 1) (by decide) (by rw [g40, if_pos n1]) (by (repeat' split); all_goals omega) (by (repeat' split); all_goals omega) (by omega)
        · by_cases q1 : c1 < lo ∨ hi < c1
          · exact fin0 (x := a + 1) (k := 1) (by decide) (by rw [g40, if_neg n1, if_pos (g1.mpr q1)]) (by (repeat' split); all_goals omega) (by (repeat' split); all_goals omega) (by omega)
          · skip
            by_cases n2 : L ≤ a + 2
            · exact fin0 (x := L) (k := 2) (by decide) (by rw [g40, if_neg n1, if_neg (fun h => q1 (g1.mp h)), if_pos n2]) (by (repeat' split); all_goals omega) (by (repeat' split); all_goals omega) (by omega)
            · by_cases q2 : c2 < 128 ∨ 191 < c2
              · exact fin0 (x := a + 2) (k := 2) (by decide) (by rw [g40, if_neg n1, if_neg (fun h => q1 (g1.mp h)), if_neg n2, if_pos (g2.mpr q2)]) (by (repeat' split); all_goals omega) (by (repeat' split); all_goals omega) (by omega)
              · skip
                by_cases n3 : L ≤ a + 3
                · exact fin0 (x := L) (k := 3) (by decide) (by rw [g40, if_neg n1, if_neg (fun h => q1 (g1.mp h)), if_neg n2, if_neg (fun h => q2 (g2.mp h)), if_pos n3]) (by (repeat' split); all_goals omega) (by (repeat' split); all_goals omega) (by omega)
                · by_cases q3 : c3 < 128 ∨ 191 < c3
                  · exact fin0 (x := a + 3) (k := 3) (by decide) (by rw [g40, if_neg n1, if_neg (fun h => q1 (g1.mp h)), if_neg n2, if_neg (fun h => q2 (g2.mp h)), if_neg n3, if_pos (g3.mpr q3)]) (by (repeat' split); all_goals omega) (by (repeat' split); all_goals omega) (by omega)
                  · exact fin1 (by decide) (by rw [g40, if_neg n1, if_neg (fun h => q1 (g1.mp h)), if_neg n2, if_neg (fun h => q2 (g2.mp h)), if_neg n3, if_neg (fun h => q3 (g3.mp h))]) (by (repeat' split); all_goals omega)
theorem ufu {b : List UInt8} : ∀ (f a : Nat), badR b f a = badAt b f a
  | 0, a => rfl
  | f + 1, a => by
    rw [badR, badAt]
    by_cases ha : a < b.length
    · rw [if_pos ha, if_pos ha]
      obtain ⟨h1, h2⟩ := ulq ha
      by_cases h0 : letL (b.drop a) = 0
      · rw [if_pos h0] at h1 ⊢
        by_cases hz : ltN (bN b a) = 0
        · rw [if_pos hz] at h1 ⊢
          exact h1
        · rw [if_neg hz] at h1 ⊢
          rw [h1]
      · rw [if_neg h0] at h1 ⊢
        have e := h2 h0
        have hz : ¬ ltN (bN b a) = 0 := by rw [← e]; exact h0
        rw [if_neg hz] at h1 ⊢
        rw [h1, e]
        exact ufu f _
    · rw [if_neg ha, if_neg ha]
end Go.Proofs.YtiamjepnlnjlfaaDoor.Pi.Q
namespace Go.Proofs.YtiamjepnlnjlfaaDoor.Pi.Q
open Go Go.Proofs.YtiamjepnlnjlfaaDoor.Pi
attribute [local congr] ite_congr
variable {H : Heap} {z : Bool}
theorem uhx {n : Nat} (h : n < 256) : run (C u21 [.int .u8 n]) H = some (.ok (.int .i64 (ltN n : Nat)) H) := by
  rw [u3v]
  have hc : n < 128 ∨ (128 ≤ n ∧ n < 194) ∨ (194 ≤ n ∧ n ≤ 223) ∨ (224 ≤ n ∧ n ≤ 239) ∨ (240 ≤ n ∧ n ≤ 244) ∨ 244 < n := by omega
  rcases hc with q | q | q | q | q | q
  · have e : ltN n = 1 := by unfold ltN; (repeat' split) <;> omega
    rw [e]
    have t0 : ((n : Int) < 128) = True := eq_true (by omega)
    have t1 : ((194 : Int) ≤ (n : Int)) = False := eq_false (by omega)
    have t2 : ((n : Int) ≤ 223) = True := eq_true (by omega)
    have t3 : ((224 : Int) ≤ (n : Int)) = False := eq_false (by omega)
    have t4 : ((n : Int) ≤ 239) = True := eq_true (by omega)
    have t5 : ((240 : Int) ≤ (n : Int)) = False := eq_false (by omega)
    have t6 : ((n : Int) ≤ 244) = True := eq_true (by omega)
    simp +contextual -dsimp (disch := omega) only [↓goDown, goUp, cr, simprocAttr, t0, t1, t2, t3, t4, t5, t6]
  · have e : ltN n = 0 := by unfold ltN; (repeat' split) <;> omega
    rw [e]
    have t0 : ((n : Int) < 128) = False := eq_false (by omega)
    have t1 : ((194 : Int) ≤ (n : Int)) = False := eq_false (by omega)
    have t2 : ((n : Int) ≤ 223) = True := eq_true (by omega)
    have t3 : ((224 : Int) ≤ (n : Int)) = False := eq_false (by omega)
    have t4 : ((n : Int) ≤ 239) = True := eq_true (by omega)
    have t5 : ((240 : Int) ≤ (n : Int)) = False := eq_false (by omega)
    have t6 : ((n : Int) ≤ 244) = True := eq_true (by omega)
    simp +contextual -dsimp (disch := omega) only [↓goDown, goUp, cr, simprocAttr, t0, t1, t2, t3, t4, t5, t6]
  · have e : ltN n = 2 := by unfold ltN; (repeat' split) <;> omega
    rw [e]
    have t0 : ((n : Int) < 128) = False := eq_false (by omega)
    have t1 : ((194 : Int) ≤ (n : Int)) = True := eq_true (by omega)
    have t2 : ((n : Int) ≤ 223) = True := eq_true (by omega)
    have t3 : ((224 : Int) ≤ (n : Int)) = False := eq_false (by omega)
    have t4 : ((n : Int) ≤ 239) = True := eq_true (by omega)
    have t5 : ((240 : Int) ≤ (n : Int)) = False := eq_false (by omega)
    have t6 : ((n : Int) ≤ 244) = True := eq_true (by omega)
    simp +contextual -dsimp (disch := omega) only [↓goDown, goUp, cr, simprocAttr, t0, t1, t2, t3, t4, t5, t6]
  · have e : ltN n = 3 := by unfold ltN; (repeat' split) <;> omega
    rw [e]
    have t0 : ((n : Int) < 128) = False := eq_false (by omega)
    have t1 : ((194 : Int) ≤ (n : Int)) = True := eq_true (by omega)
    have t2 : ((n : Int) ≤ 223) = False := eq_false (by omega)
    have t3 : ((224 : Int) ≤ (n : Int)) = True := eq_true (by omega)
    have t4 : ((n : Int) ≤ 239) = True := eq_true (by omega)
    have t5 : ((240 : Int) ≤ (n : Int)) = False := eq_false (by omega)
    have t6 : ((n : Int) ≤ 244) = True := eq_true (by omega)
    simp +contextual -dsimp (disch := omega) only [↓goDown, goUp, cr, simprocAttr, t0, t1, t2, t3, t4, t5, t6]
  · have e : ltN n = 4 := by unfold ltN; (repeat' split) <;> omega
    rw [e]
    have t0 : ((n : Int) < 128) = False := eq_false (by omega)
    have t1 : ((194 : Int) ≤ (n : Int)) = True := eq_true (by omega)
    have t2 : ((n : Int) ≤ 223) = False := eq_false (by omega)
    have t3 : ((224 : Int) ≤ (n : Int)) = True := eq_true (by omega)
    have t4 : ((n : Int) ≤ 239) = False := eq_false (by omega)
    have t5 : ((240 : Int) ≤ (n : Int)) = True := eq_true (by omega)
    have t6 : ((n : Int) ≤ 244) = True := eq_true (by omega)
    simp +contextual -dsimp (disch := omega) only [↓goDown, goUp, cr, simprocAttr, t0, t1, t2, t3, t4, t5, t6]
  · have e : ltN n = 0 := by unfold ltN; (repeat' split) <;> omega
    rw [e]
    have t0 : ((n : Int) < 128) = False := eq_false (by omega)
    have t1 : ((194 : Int) ≤ (n : Int)) = True := eq_true (by omega)
    have t2 : ((n : Int) ≤ 223) = False := eq_false (by omega)
    have t3 : ((224 : Int) ≤ (n : Int)) = True := eq_true (by omega)
    have t4 : ((n : Int) ≤ 239) = False := eq_false (by omega)
    have t5 : ((240 : Int) ≤ (n : Int)) = True := eq_true (by omega)
    have t6 : ((n : Int) ≤ 244) = False := eq_false (by omega)
    simp +contextual -dsimp (disch := omega) only [↓goDown, goUp, cr, simprocAttr, t0, t1, t2, t3, t4, t5, t6]
theorem ugy {f k c : Nat} (h : c < 256) : run (C u1g [.int .u8 f, .int .i64 k, .int .u8 c]) H = some (.ok (.bool (folR f k c)) H) := by
  have e : ∀ {lo hi : Nat}, run (u01 (.int .u8 c) (.bool false) (.int .u8 lo) (.int .u8 hi)) H = some (.ok (.bool (decide (lo ≤ c ∧ c ≤ hi))) H) := by
    intro lo hi
    rw [u2v]
    by_cases g : lo ≤ c
    · have g' : ((lo : Int) ≤ (c : Int)) = True := eq_true (by omega)
      have d : decide ((c : Int) ≤ (hi : Int)) = decide (lo ≤ c ∧ c ≤ hi) := by
        apply decide_eq_decide.mpr; omega
      simp +contextual -dsimp (disch := omega) only [↓goDown, goUp, cr, simprocAttr, g', d]
    · have g' : ((lo : Int) ≤ (c : Int)) = False := eq_false (by omega)
      have d : decide (lo ≤ c ∧ c ≤ hi) = false := decide_eq_false (by omega)
      simp +contextual -dsimp (disch := omega) only [↓goDown, goUp, cr, simprocAttr, g', d]
  have e1 : run (u01 (.int .u8 c) (.bool false) (.int .u8 160) (.int .u8 191)) H = _ := e (lo := 160) (hi := 191)
  have e2 : run (u01 (.int .u8 c) (.bool false) (.int .u8 128) (.int .u8 159)) H = _ := e (lo := 128) (hi := 159)
  have e3 : run (u01 (.int .u8 c) (.bool false) (.int .u8 144) (.int .u8 191)) H = _ := e (lo := 144) (hi := 191)
  have e4 : run (u01 (.int .u8 c) (.bool false) (.int .u8 128) (.int .u8 143)) H = _ := e (lo := 128) (hi := 143)
  have e5 : run (u01 (.int .u8 c) (.bool false) (.int .u8 128) (.int .u8 191)) H = _ := e (lo := 128) (hi := 191)
  rw [u3k]
  unfold folR loR hiR
  by_cases k1 : k = 1
  · subst k1
    by_cases f1 : f = 224
    · subst f1
      simp +contextual -dsimp (disch := omega) only [↓goDown, goUp, cr, simprocAttr, e1]
    · have f1' : ((f : Int) = 224) = False := eq_false (by omega)
      by_cases f2 : f = 237
      · subst f2
        simp +contextual -dsimp (disch := omega) only [↓goDown, goUp, cr, simprocAttr, e2]
      · have f2' : ((f : Int) = 237) = False := eq_false (by omega)
        by_cases f3 : f = 240
        · subst f3
          simp +contextual -dsimp (disch := omega) only [↓goDown, goUp, cr, simprocAttr, e3]
        · have f3' : ((f : Int) = 240) = False := eq_false (by omega)
          by_cases f4 : f = 244
          · subst f4
            simp +contextual -dsimp (disch := omega) only [↓goDown, goUp, cr, simprocAttr, e4]
          · have f4' : ((f : Int) = 244) = False := eq_false (by omega)
            simp +contextual -dsimp (disch := omega) only [↓goDown, goUp, cr, simprocAttr, e5, f1', f2', f3', f4', f1, f2, f3, f4]
  · have k1' : ((k : Int) = 1) = False := eq_false (by omega)
    simp +contextual -dsimp (disch := omega) only [↓goDown, goUp, cr, simprocAttr, e5, k1', k1]
theorem ud5 {b : List UInt8} {v2 v3 : PV} {a n : Nat} (hb : b.length < 2 ^ 60) (ha : a < b.length) (hn : n ≤ 4) : ∀ (f k : Nat), n < k + f → k ≤ 5 →
    run (u0f (BS z b) v2 v3 (.int .i64 a) (.int .i64 n) (.int .i64 k)) H = match goR b a n f k with | some x => some (.ok (utfR (some x)) H) | none => run (u0n (BS z b) v2 v3 (.int .i64 (a + n : Nat))) H
  | 0, k, h, hk => by
    have g' : ((k : Int) < (n : Int)) = False := eq_false (by omega)
    have ea : ((a : Int) + (n : Int)) = ((a + n : Nat) : Int) := rfl
    have wa : IntKind.i64.wrap ((a + n : Nat) : Int) = ((a + n : Nat) : Int) := w_i64 (by omega)
    rw [u1f, goR]
    simp +contextual -dsimp (disch := omega) only [↓goDown, goUp, cr, simprocAttr, g', ea, wa]
  | f + 1, k, h, hk => by
    rw [u1f, goR]
    by_cases g : k < n
    · have g' : ((k : Int) < (n : Int)) = True := eq_true (by omega)
      rw [if_pos g]
      have ea : ((a : Int) + (k : Int)) = ((a + k : Nat) : Int) := rfl
      have wa : IntKind.i64.wrap ((a + k : Nat) : Int) = ((a + k : Nat) : Int) := w_i64 (by omega)
      by_cases gl : b.length ≤ a + k
      · have gl' : ((b.length : Int) ≤ ((a + k : Nat) : Int)) = True := eq_true (by omega)
        rw [if_pos gl]
        simp +contextual -dsimp (disch := omega) only [↓goDown, goUp, cr, simprocAttr, g', ea, wa, List.length_map, gl', utfR]
      · have gl' : ((b.length : Int) ≤ ((a + k : Nat) : Int)) = False := eq_false (by omega)
        rw [if_neg gl]
        have i1 := fun K => iaB (H := K) (z := z) (p := b) (i := a) ha
        have i2 := fun K => iaB (H := K) (z := z) (p := b) (i := a + k) (by omega)
        have hf := fun K => ugy (H := K) (f := bN b a) (k := k) (c := bN b (a + k)) bN_lt
        cases hc : folR (bN b a) k (bN b (a + k)) with
        | false =>
          rw [hc] at hf
          rw [if_pos rfl]
          simp +contextual -dsimp (disch := omega) only [↓goDown, goUp, cr, simprocAttr, g', ea, wa, List.length_map, gl', i1, i2, hf, un_not, utfR]
        | true =>
          rw [hc] at hf
          rw [if_neg (by decide)]
          have ih := ud5 (v2 := v2) (v3 := v3) hb ha hn f (k + 1) (by omega) (by omega)
          have ek : ((k : Int) + 1) = ((k + 1 : Nat) : Int) := rfl
          have wk : IntKind.i64.wrap ((k + 1 : Nat) : Int) = ((k + 1 : Nat) : Int) := w_i64 (by omega)
          simp +contextual -dsimp (disch := omega) only [↓goDown, goUp, cr, simprocAttr, g', ea, wa, List.length_map, gl', i1, i2, hf, un_not, ek, wk, ih]
    · have g' : ((k : Int) < (n : Int)) = False := eq_false (by omega)
      rw [if_neg g]
      have ea : ((a : Int) + (n : Int)) = ((a + n : Nat) : Int) := rfl
      have wa : IntKind.i64.wrap ((a + n : Nat) : Int) = ((a + n : Nat) : Int) := w_i64 (by omega)
      simp +contextual -dsimp (disch := omega) only [↓goDown, goUp, cr, simprocAttr, g', ea, wa]
theorem lt_le {c : Nat} : ltN c ≤ 4 := by unfold ltN; (repeat' split) <;> omega
theorem uct {b : List UInt8} {v2 v3 : PV} (hb : b.length < 2 ^ 60) : ∀ (f a : Nat), b.length - a < f → a ≤ b.length + 4 →
    run (u0n (BS z b) v2 v3 (.int .i64 a)) H = some (.ok (utfR (badR b f a)) H)
  | 0, a, h, ha => by omega
  | f + 1, a, h, ha => by
    rw [u38, badR]
    by_cases hl : a < b.length
    · have g' : ((a : Int) < (b.length : Int)) = True := eq_true (by omega)
      rw [if_pos hl]
      have i1 := fun K => iaB (H := K) (z := z) (p := b) (i := a) hl
      have hf := fun K => uhx (H := K) (n := bN b a) bN_lt
      by_cases h0 : ltN (bN b a) = 0
      · rw [h0] at hf
        rw [if_pos h0]
        simp +contextual -dsimp (disch := omega) only [↓goDown, goUp, cr, simprocAttr, g', List.length_map, i1, hf, utfR, show ((0 : Nat) : Int) = 0 from rfl]
      · have h0' : ((ltN (bN b a) : Nat) : Int) = 0 ↔ False := iff_false_intro (by omega)
        rw [if_neg h0]
        have hi := ud5 (H := H) (z := z) (v2 := v2) (v3 := v3) hb hl lt_le 5 1 (Nat.lt_of_le_of_lt (lt_le (c := bN b a)) (by omega)) (by omega)
        have hi : run (u0f (BS z b) v2 v3 (.int .i64 a) (.int .i64 (ltN (bN b a) : Nat)) (.int .i64 1)) H = _ := hi
        have hlt := lt_le (c := bN b a)
        simp +contextual -dsimp (disch := omega) only [↓goDown, goUp, cr, simprocAttr, g', List.length_map, i1, hf, h0', hi]
        cases hg : goR b a (ltN (bN b a)) 5 1 with
        | some x => rfl
        | none => exact uct hb f (a + ltN (bN b a)) (by omega) (by omega)
    · have g' : ((a : Int) < (b.length : Int)) = False := eq_false (by omega)
      rw [if_neg hl]
      simp +contextual -dsimp (disch := omega) only [↓goDown, goUp, cr, simprocAttr, g', List.length_map, utfR]
theorem uko {b : List UInt8} (hb : b.length < 2 ^ 60) : run (C u1d [BS z b]) H = some (.ok (utfR (utfN b)) H) := by
  have h := uct (H := H) (z := z) (v2 := .int .i64 0) (v3 := .bool false) hb (b.length + 1) 0 (by omega) (by omega)
  have h : run (u0n (BS z b) (.int .i64 0) (.bool false) (.int .i64 0)) H = _ := h
  rw [ufu] at h
  rw [u4n]
  simp +contextual -dsimp (disch := omega) only [↓goDown, goUp, cr, simprocAttr, h, utfN, um4]
end Go.Proofs.YtiamjepnlnjlfaaDoor.Pi.Q
namespace Go.Proofs.YtiamjepnlnjlfaaDoor.Pi.Q
open Go Go.Proofs.YtiamjepnlnjlfaaDoor.Pi
attribute [local congr] ite_congr
variable {H : Heap} {z : Bool}
abbrev SB (u : List UInt8) : PV := .str ⟨⟨u⟩⟩
theorem ixS_is {u : List UInt8} {i : Nat} {k : IntKind} (h : i < u.length) : run (ixS (SB u) (.int k i)) H = some (.ok (.int .u8 (bN u i : Nat)) H) := by
  unfold run ixS
  have h0 : decide ((0 : Int) ≤ (i : Int)) = true := decide_eq_true (by omega)
  simp only [h0, cond_true, Int.toNat_natCast]
  rw [show u[i]? = some u[i] from List.getElem?_eq_getElem h]
  unfold bN
  simp [List.getD_eq_getElem?_getD, List.getElem?_eq_getElem h, M.pure]
theorem slS_is {u : List UInt8} {n : Nat} {k : IntKind} (h : n ≤ u.length) : run (slS (SB u) (some (.int k n)) none) H = some (.ok (SB (u.drop n)) H) := by
  unfold run slS bnd
  have h0 : decide ((0 : Int) ≤ (n : Int)) = true := decide_eq_true (by omega)
  have h1 : decide (n ≤ (ByteArray.mk ⟨u⟩).size) = true := decide_eq_true h
  simp only [h0, cond_true, Int.toNat_natCast, h1, Nat.le_refl, decide_true, Bool.and_self, M.pure]
  have e : (ByteArray.mk ⟨u⟩).extract n (ByteArray.mk ⟨u⟩).size = ByteArray.mk ⟨u.drop n⟩ := by
    have := Lib.ext_list (ByteArray.mk ⟨u⟩) n
    generalize (ByteArray.mk ⟨u⟩).extract n (ByteArray.mk ⟨u⟩).size = B at *
    obtain ⟨⟨B⟩⟩ := B
    exact congrArg (fun l => ByteArray.mk ⟨l⟩) this
  rw [e]
theorem lnS_is {u : List UInt8} : run (lnS (SB u)) H = some (.ok (.int .i64 u.length) H) := nrfl rfl
theorem le8 {u : List UInt8} (h : 8 ≤ u.length) : Lib.leNat (u.take 8) = bN u 0 + bN u 1 * 2 ^ 8 + bN u 2 * 2 ^ 16 + bN u 3 * 2 ^ 24 + bN u 4 * 2 ^ 32 + bN u 5 * 2 ^ 40 + bN u 6 * 2 ^ 48 + bN u 7 * 2 ^ 56 := by
  match u, h with
  | a0 :: a1 :: a2 :: a3 :: a4 :: a5 :: a6 :: a7 :: r, _ =>
    simp only [List.take, Lib.leNat, bN, List.getD_cons_zero, List.getD_cons_succ]
    omega
theorem jn {n x s : Nat} (hs : s ≤ 56) (hn : n < 2 ^ s) (hx : x < 256) : bi .or .none (.int .u64 n) (.int .u64 (IntKind.u64.wrap ((x : Int) * 2 ^ shiftN .u64 (s : Int)))) = M.pure (.int .u64 ((n + x * 2 ^ s : Nat) : Int)) := by
  have hp : 2 ^ s ≤ 2 ^ 56 := Nat.pow_le_pow_right (by omega) hs
  have h2 : x * 2 ^ s ≤ 255 * 2 ^ 56 := Nat.mul_le_mul (by omega) hp
  rw [run_or, (ulk (by omega) hn (by omega)).1]
theorem u55 {u : List UInt8} (h : 8 ≤ u.length) : run (C u07 [SB u]) H = some (.ok (.int .u64 (Lib.leNat (u.take 8) : Nat)) H) := by
  rw [le8 h, u36]
  have i0 := fun K => ixS_is (H := K) (u := u) (i := 0) (k := .i64) (by omega)
  have l0 : bN u 0 < 256 := bN_lt
  have w0 : IntKind.u64.wrap ((bN u 0 : Nat) : Int) = ((bN u 0 : Nat) : Int) := w_u64 (by omega)
  have i1 := fun K => ixS_is (H := K) (u := u) (i := 1) (k := .i64) (by omega)
  have l1 : bN u 1 < 256 := bN_lt
  have w1 : IntKind.u64.wrap ((bN u 1 : Nat) : Int) = ((bN u 1 : Nat) : Int) := w_u64 (by omega)
  have i2 := fun K => ixS_is (H := K) (u := u) (i := 2) (k := .i64) (by omega)
  have l2 : bN u 2 < 256 := bN_lt
  have w2 : IntKind.u64.wrap ((bN u 2 : Nat) : Int) = ((bN u 2 : Nat) : Int) := w_u64 (by omega)
  have i3 := fun K => ixS_is (H := K) (u := u) (i := 3) (k := .i64) (by omega)
  have l3 : bN u 3 < 256 := bN_lt
  have w3 : IntKind.u64.wrap ((bN u 3 : Nat) : Int) = ((bN u 3 : Nat) : Int) := w_u64 (by omega)
  have i4 := fun K => ixS_is (H := K) (u := u) (i := 4) (k := .i64) (by omega)
  have l4 : bN u 4 < 256 := bN_lt
  have w4 : IntKind.u64.wrap ((bN u 4 : Nat) : Int) = ((bN u 4 : Nat) : Int) := w_u64 (by omega)
  have i5 := fun K => ixS_is (H := K) (u := u) (i := 5) (k := .i64) (by omega)
  have l5 : bN u 5 < 256 := bN_lt
  have w5 : IntKind.u64.wrap ((bN u 5 : Nat) : Int) = ((bN u 5 : Nat) : Int) := w_u64 (by omega)
  have i6 := fun K => ixS_is (H := K) (u := u) (i := 6) (k := .i64) (by omega)
  have l6 : bN u 6 < 256 := bN_lt
  have w6 : IntKind.u64.wrap ((bN u 6 : Nat) : Int) = ((bN u 6 : Nat) : Int) := w_u64 (by omega)
  have i7 := fun K => ixS_is (H := K) (u := u) (i := 7) (k := .i64) (by omega)
  have l7 : bN u 7 < 256 := bN_lt
  have w7 : IntKind.u64.wrap ((bN u 7 : Nat) : Int) = ((bN u 7 : Nat) : Int) := w_u64 (by omega)
  simp only [show ((0 : Nat) : Int) = 0 from rfl, show ((1 : Nat) : Int) = 1 from rfl, show ((2 : Nat) : Int) = 2 from rfl, show ((3 : Nat) : Int) = 3 from rfl, show ((4 : Nat) : Int) = 4 from rfl, show ((5 : Nat) : Int) = 5 from rfl, show ((6 : Nat) : Int) = 6 from rfl, show ((7 : Nat) : Int) = 7 from rfl] at i0 i1 i2 i3 i4 i5 i6 i7
  generalize bN u 0 = c0 at *
  generalize bN u 1 = c1 at *
  generalize bN u 2 = c2 at *
  generalize bN u 3 = c3 at *
  generalize bN u 4 = c4 at *
  generalize bN u 5 = c5 at *
  generalize bN u 6 = c6 at *
  generalize bN u 7 = c7 at *
  have j1 : bi .or .none (.int .u64 ((c0 : Nat) : Int)) (.int .u64 (IntKind.u64.wrap ((c1 : Int) * 2 ^ shiftN .u64 8))) = _ := jn (n := c0) (x := c1) (s := 8) (by decide) (by omega) l1
  have j2 : bi .or .none (.int .u64 ((c0 + c1 * 2 ^ 8 : Nat) : Int)) (.int .u64 (IntKind.u64.wrap ((c2 : Int) * 2 ^ shiftN .u64 16))) = _ := jn (n := c0 + c1 * 2 ^ 8) (x := c2) (s := 16) (by decide) (by omega) l2
  have j3 : bi .or .none (.int .u64 ((c0 + c1 * 2 ^ 8 + c2 * 2 ^ 16 : Nat) : Int)) (.int .u64 (IntKind.u64.wrap ((c3 : Int) * 2 ^ shiftN .u64 24))) = _ := jn (n := c0 + c1 * 2 ^ 8 + c2 * 2 ^ 16) (x := c3) (s := 24) (by decide) (by omega) l3
  have j4 : bi .or .none (.int .u64 ((c0 + c1 * 2 ^ 8 + c2 * 2 ^ 16 + c3 * 2 ^ 24 : Nat) : Int)) (.int .u64 (IntKind.u64.wrap ((c4 : Int) * 2 ^ shiftN .u64 32))) = _ := jn (n := c0 + c1 * 2 ^ 8 + c2 * 2 ^ 16 + c3 * 2 ^ 24) (x := c4) (s := 32) (by decide) (by omega) l4
  have j5 : bi .or .none (.int .u64 ((c0 + c1 * 2 ^ 8 + c2 * 2 ^ 16 + c3 * 2 ^ 24 + c4 * 2 ^ 32 : Nat) : Int)) (.int .u64 (IntKind.u64.wrap ((c5 : Int) * 2 ^ shiftN .u64 40))) = _ := jn (n := c0 + c1 * 2 ^ 8 + c2 * 2 ^ 16 + c3 * 2 ^ 24 + c4 * 2 ^ 32) (x := c5) (s := 40) (by decide) (by omega) l5
  have j6 : bi .or .none (.int .u64 ((c0 + c1 * 2 ^ 8 + c2 * 2 ^ 16 + c3 * 2 ^ 24 + c4 * 2 ^ 32 + c5 * 2 ^ 40 : Nat) : Int)) (.int .u64 (IntKind.u64.wrap ((c6 : Int) * 2 ^ shiftN .u64 48))) = _ := jn (n := c0 + c1 * 2 ^ 8 + c2 * 2 ^ 16 + c3 * 2 ^ 24 + c4 * 2 ^ 32 + c5 * 2 ^ 40) (x := c6) (s := 48) (by decide) (by omega) l6
  have j7 : bi .or .none (.int .u64 ((c0 + c1 * 2 ^ 8 + c2 * 2 ^ 16 + c3 * 2 ^ 24 + c4 * 2 ^ 32 + c5 * 2 ^ 40 + c6 * 2 ^ 48 : Nat) : Int)) (.int .u64 (IntKind.u64.wrap ((c7 : Int) * 2 ^ shiftN .u64 56))) = _ := jn (n := c0 + c1 * 2 ^ 8 + c2 * 2 ^ 16 + c3 * 2 ^ 24 + c4 * 2 ^ 32 + c5 * 2 ^ 40 + c6 * 2 ^ 48) (x := c7) (s := 56) (by decide) (by omega) l7
  simp +contextual -dsimp (disch := omega) only [↓goDown, goUp, cr, simprocAttr, i0, w0, i1, w1, i2, w2, i3, w3, i4, w4, i5, w5, i6, w6, i7, w7, ulz, j1, j2, j3, j4, j5, j6, j7]
theorem ua5 {x : Nat} (h : x < 2 ^ 64) : bi .and .none (.int .u64 (x : Int)) (.int .u64 9259542123273814144) = M.pure (.int .u64 ((x &&& 9259542123273814144 : Nat) : Int)) := by
  rw [uj5, show IntKind.u64.bits = 64 from rfl]
  have e : (BitVec.ofInt 64 (x : Int) &&& BitVec.ofInt 64 9259542123273814144).toNat = x &&& 9259542123273814144 := bv_and (w := 64) (a := x) (b := 9259542123273814144) h (by decide)
  have l : x &&& 9259542123273814144 ≤ x := Nat.and_le_left
  rw [e, w_u64 (by omega)]
theorem or_and {x y : Nat} (hx : x < 2 ^ 64) (hy : y < 2 ^ 64) : bi .or .none (.int .u64 (x : Int)) (.int .u64 (y : Int)) = M.pure (.int .u64 ((x ||| y : Nat) : Int)) := by
  rw [run_or, show IntKind.u64.bits = 64 from rfl, bv_or (w := 64) hx hy]
  have := Nat.or_lt_two_pow hx hy
  rw [w_u64 (by omega)]
theorem le8_lt {u : List UInt8} : Lib.leNat (u.take 8) < 2 ^ 64 := by
  have := Lib.leNat_lt (u.take 8)
  have h : (u.take 8).length ≤ 8 := by rw [List.length_take]; omega
  exact Nat.lt_of_lt_of_le this (Nat.le_trans (Nat.pow_le_pow_right (by decide) h) (by decide))
theorem u3u {u : List UInt8} (h : 8 ≤ u.length) (hm : Lib.leNat (u.take 8) &&& 9259542123273814144 = 0) : Lib.validD u = Lib.validD (u.drop 8) := by
  have hl : (u.take 8).length = 8 := by rw [List.length_take]; omega
  have := (Lib.leNat_mask (u.take 8)).mp (by rw [hl, Lib.maskN8]; exact hm)
  exact Lib.validD_ascii 8 u this
def VOk (v2 : PV) (n : Nat) : Prop := ∀ (u : List UInt8) (H : Heap), u.length ≤ n → u.length < 2 ^ 60 → ∃ E, run (u02 (SB u) v2) H = some (.ok (.bool (Lib.validD u)) (hadd H E))
theorem fast32 {v2 v3 : PV} {n : Nat} (hm : VOk v2 n) : ∀ (f : Nat) (u : List UInt8) (H : Heap), u.length ≤ f → u.length ≤ n → u.length < 2 ^ 60 →
    ∃ E, run (u09 (SB u) v2 v3) H = some (.ok (.bool (Lib.validD u)) (hadd H E))
  | f, u, H, hf, hn, hu => by
    rw [u1h]
    have hl := fun K => lnS_is (H := K) (u := u)
    obtain ⟨E, he⟩ := hm u H hn hu
    by_cases h : 32 < u.length
    · have h' : ((32 : Int) < (u.length : Int)) = True := eq_true (by omega)
      have a1 := fun K => u55 (H := K) (u := u) (by omega)
      have a2 := fun K => u55 (H := K) (u := u.drop 8) (by rw [List.length_drop]; omega)
      have a3 := fun K => u55 (H := K) (u := u.drop 16) (by rw [List.length_drop]; omega)
      have a4 := fun K => u55 (H := K) (u := u.drop 24) (by rw [List.length_drop]; omega)
      have d8 := fun K => slS_is (H := K) (u := u) (n := 8) (k := .i64) (by omega)
      have d16 := fun K => slS_is (H := K) (u := u) (n := 16) (k := .i64) (by omega)
      have d24 := fun K => slS_is (H := K) (u := u) (n := 24) (k := .i64) (by omega)
      have d32 := fun K => slS_is (H := K) (u := u) (n := 32) (k := .i64) (by omega)
      simp only [show ((8 : Nat) : Int) = 8 from rfl, show ((16 : Nat) : Int) = 16 from rfl, show ((24 : Nat) : Int) = 24 from rfl, show ((32 : Nat) : Int) = 32 from rfl] at d8 d16 d24 d32
      have l1 := le8_lt (u := u)
      have l2 := le8_lt (u := u.drop 8)
      have l3 := le8_lt (u := u.drop 16)
      have l4 := le8_lt (u := u.drop 24)
      have o1 := or_and l1 l2
      have o2 := or_and l3 l4
      have o3 := or_and (Nat.or_lt_two_pow l1 l2) (Nat.or_lt_two_pow l3 l4)
      have ma := ua5 (Nat.or_lt_two_pow (Nat.or_lt_two_pow l1 l2) (Nat.or_lt_two_pow l3 l4))
      by_cases g : ((Lib.leNat (u.take 8) ||| Lib.leNat ((u.drop 8).take 8)) ||| (Lib.leNat ((u.drop 16).take 8) ||| Lib.leNat ((u.drop 24).take 8))) &&& 9259542123273814144 = 0
      · skip
        have g' := g
        rw [Lib.or_mask, Lib.or_mask, Lib.or_mask] at g
        obtain ⟨⟨g1, g2⟩, g3, g4⟩ := g
        have e : Lib.validD u = Lib.validD (u.drop 32) := by
          rw [u3u (by omega) g1, u3u (by rw [List.length_drop]; omega) g2, List.drop_drop, u3u (by rw [List.length_drop]; omega) g3, List.drop_drop, u3u (by rw [List.length_drop]; omega) g4, List.drop_drop]
        obtain ⟨f, rfl⟩ : ∃ k, f = k + 1 := ⟨f - 1, by omega⟩
        obtain ⟨E, ih⟩ := fast32 hm (v3 := v3) f (u.drop 32) H (by rw [List.length_drop]; omega) (by rw [List.length_drop]; omega) (by rw [List.length_drop]; omega)
        refine ⟨E, ?_⟩
        rw [e]
        rw [g'] at ma
        simp +contextual -dsimp (disch := omega) only [↓goDown, goUp, cr, simprocAttr, u0e, h', a1, a2, a3, a4, d8, d16, d24, d32, o1, o2, o3, ma, ih]
      · refine ⟨E, ?_⟩
        have g' : (((((Lib.leNat (u.take 8) ||| Lib.leNat ((u.drop 8).take 8)) ||| (Lib.leNat ((u.drop 16).take 8) ||| Lib.leNat ((u.drop 24).take 8))) &&& 9259542123273814144 : Nat) : Int) = 0) = False := eq_false (by omega)
        simp +contextual -dsimp (disch := omega) only [↓goDown, goUp, cr, simprocAttr, u0e, h', a1, a2, a3, a4, d8, d16, d24, d32, o1, o2, o3, ma, g', u04, he]
    · have h' : ((32 : Int) < (u.length : Int)) = False := eq_false (by omega)
      refine ⟨E, ?_⟩
      simp +contextual -dsimp (disch := omega) only [↓goDown, goUp, cr, simprocAttr, u0e, h', u04, he]
end Go.Proofs.YtiamjepnlnjlfaaDoor.Pi.Q
namespace Go.Proofs.YtiamjepnlnjlfaaDoor.Pi.Q
open Go Go.Proofs.YtiamjepnlnjlfaaDoor.Pi
attribute [local congr] ite_congr
variable {H : Heap} {z : Bool}
theorem uji {u : List UInt8} (h : u ≠ []) (h0 : bN u 0 < 128) : ∀ b ∈ u.take 1, b.toNat < 128 := by
  cases u with
  | nil => exact absurd rfl h
  | cons c r => intro b hb; simp at hb; subst hb; exact h0
theorem u92 {u : List UInt8} (h : u ≠ []) (h0 : 128 ≤ bN u 0) : Lib.validD u = if letL u = 0 then false else Lib.validD (u.drop (letL u)) := by
  have e := Lib.validD_lead u h h0
  have c := uht (n := u.length) (c0 := bN u 0) (c1 := bN u 1) (c2 := bN u 2) (c3 := bN u 3) h0
  unfold letL
  rw [c, e]
  unfold bN
  have d := Lib.check_decode u.length (bN u 0) (bN u 1) (bN u 2) (bN u 3) (List.length_pos_iff.2 h) h0 bN_lt bN_lt bN_lt bN_lt
  unfold bN at d
  rcases d with ⟨d, _⟩ | ⟨k, hk, d, _⟩
  · rw [d]; rfl
  · rw [d]; exact (if_neg (show ¬ k = 0 by omega)).symm
theorem ukq {v2 v3 : PV} {n : Nat} (hm : VOk v2 n) {u : List UInt8} {H : Heap} (hn : u.length ≤ n + 1) (hu : u.length < 2 ^ 60) (h : u ≠ []) (h0 : bN u 0 < 128) :
    ∃ E, run (u02 (SB u) v2) H = some (.ok (.bool (Lib.validD u)) (hadd H E)) := by
  have hl : 0 < u.length := List.length_pos_iff.2 h
  have x0 := fun K => ixS_is (H := K) (u := u) (i := 0) (k := .i64) hl
  have x1 := fun K => slS_is (H := K) (u := u) (n := 1) (k := .i64) hl
  simp only [show ((0 : Nat) : Int) = 0 from rfl, show ((1 : Nat) : Int) = 1 from rfl] at x0 x1
  have c0 : ((0 : Int) < (u.length : Int)) = True := eq_true (by omega)
  have c1 : (((bN u 0 : Nat) : Int) < 128) = True := eq_true (by omega)
  rw [Lib.validD_ascii 1 u (uji h h0)]
  have hd : (u.drop 1).length = u.length - 1 := List.length_drop
  rw [u0c]
  generalize u.drop 1 = t at *
  obtain ⟨E1, e1⟩ := hm t H (by omega) (by omega)
  by_cases h8 : 8 < t.length
  · have h8' : ((8 : Int) < (t.length : Int)) = True := eq_true (by omega)
    have a1 := fun K => u55 (H := K) (u := t) (by omega)
    have m1 := ua5 (le8_lt (u := t))
    by_cases g1 : Lib.leNat (t.take 8) &&& 9259542123273814144 = 0
    · have x8 := fun K => slS_is (H := K) (u := t) (n := 8) (k := .i64) (by omega)
      simp only [show ((8 : Nat) : Int) = 8 from rfl] at x8
      rw [g1] at m1
      rw [u3u (by omega) g1]
      have hd8 : (t.drop 8).length = t.length - 8 := List.length_drop
      generalize t.drop 8 = s at *
      obtain ⟨E2, e2⟩ := hm s H (by omega) (by omega)
      by_cases h16 : 16 < s.length
      · have h16' : ((16 : Int) < (s.length : Int)) = True := eq_true (by omega)
        have a2 := fun K => u55 (H := K) (u := s) (by omega)
        have a3 := fun K => u55 (H := K) (u := s.drop 8) (by rw [List.length_drop]; omega)
        have y8 := fun K => slS_is (H := K) (u := s) (n := 8) (k := .i64) (by omega)
        have y16 := fun K => slS_is (H := K) (u := s) (n := 16) (k := .i64) (by omega)
        simp only [show ((8 : Nat) : Int) = 8 from rfl, show ((16 : Nat) : Int) = 16 from rfl] at y8 y16
        have o1 := or_and (le8_lt (u := s)) (le8_lt (u := s.drop 8))
        have m2 := ua5 (Nat.or_lt_two_pow (le8_lt (u := s)) (le8_lt (u := s.drop 8)))
        by_cases g2 : (Lib.leNat (s.take 8) ||| Lib.leNat ((s.drop 8).take 8)) &&& 9259542123273814144 = 0
        · rw [g2] at m2
          rw [Lib.or_mask] at g2
          obtain ⟨E3, e3⟩ := fast32 hm (v3 := .int .u8 (bN u 0 : Nat)) (s.drop 16).length (s.drop 16) H (Nat.le_refl _) (by rw [List.length_drop]; omega) (by rw [List.length_drop]; omega)
          refine ⟨E3, ?_⟩
          rw [u3u (by omega) g2.1, u3u (by rw [List.length_drop]; omega) g2.2, List.drop_drop]
          simp +contextual -dsimp (disch := omega) only [↓goDown, goUp, cr, simprocAttr, u0e, x0, x1, c0, c1, h8', a1, m1, x8, h16', a2, a3, y8, y16, o1, m2, e3]
        · have g2' : ((((Lib.leNat (s.take 8) ||| Lib.leNat ((s.drop 8).take 8)) &&& 9259542123273814144 : Nat) : Int) = 0) = False := eq_false (by omega)
          refine ⟨E2, ?_⟩
          simp +contextual -dsimp (disch := omega) only [↓goDown, goUp, cr, simprocAttr, u0e, x0, x1, c0, c1, h8', a1, m1, x8, h16', a2, a3, y8, y16, o1, m2, g2', u04, e2]
      · have h16' : ((16 : Int) < (s.length : Int)) = False := eq_false (by omega)
        refine ⟨E2, ?_⟩
        simp +contextual -dsimp (disch := omega) only [↓goDown, goUp, cr, simprocAttr, u0e, x0, x1, c0, c1, h8', a1, m1, x8, h16', u04, e2]
    · have g1' : (((Lib.leNat (t.take 8) &&& 9259542123273814144 : Nat) : Int) = 0) = False := eq_false (by omega)
      refine ⟨E1, ?_⟩
      simp +contextual -dsimp (disch := omega) only [↓goDown, goUp, cr, simprocAttr, u0e, x0, x1, c0, c1, h8', a1, m1, g1', u04, e1]
  · have h8' : ((8 : Int) < (t.length : Int)) = False := eq_false (by omega)
    refine ⟨E1, ?_⟩
    simp +contextual -dsimp (disch := omega) only [↓goDown, goUp, cr, simprocAttr, u0e, x0, x1, c0, c1, h8', u04, e1]
theorem uio {v2 : PV} {n : Nat} (hm : VOk v2 n) {u : List UInt8} {H : Heap} (hn : u.length ≤ n + 1) (hu : u.length < 2 ^ 60) (h : u ≠ []) (h0 : 128 ≤ bN u 0) :
    ∃ E, run (u02 (SB u) v2) H = some (.ok (.bool (Lib.validD u)) (hadd H E)) := by
  have hl : 0 < u.length := List.length_pos_iff.2 h
  have x0 := fun K => ixS_is (H := K) (u := u) (i := 0) (k := .i64) hl
  simp only [show ((0 : Nat) : Int) = 0 from rfl] at x0
  have c0 : ((0 : Int) < (u.length : Int)) = True := eq_true (by omega)
  have c1 : (((bN u 0 : Nat) : Int) < 128) = False := eq_false (by omega)
  rw [u92 h h0]
  unfold letL letN
  have hf := uai (bN u 0)
  have hia := fun K => ujn (H := K) (c := bN u 0) bN_lt
  have hac := fun K => um3 (H := K) (i := Lib.firstT (bN u 0) / 16) (by omega)
  have w1 : IntKind.i64.wrap ((Lib.firstT (bN u 0) % 8 : Nat) : Int) = ((Lib.firstT (bN u 0) % 8 : Nat) : Int) := w_i64 (by omega)
  have s4 := um9 hf
  have a7 := ulu (c := bN u 0)
  have r1 := fun (h : 1 < u.length) K => ixS_is (H := K) (u := u) (k := .i64) h
  have r2 := fun (h : 2 < u.length) K => ixS_is (H := K) (u := u) (k := .i64) h
  have r3 := fun (h : 3 < u.length) K => ixS_is (H := K) (u := u) (k := .i64) h
  simp only [show ((1 : Nat) : Int) = 1 from rfl, show ((2 : Nat) : Int) = 2 from rfl, show ((3 : Nat) : Int) = 3 from rfl] at r1 r2 r3
  have d2 := fun (h : 2 ≤ u.length) K => slS_is (H := K) (u := u) (n := 2) (k := .i64) h
  have d3 := fun (h : 3 ≤ u.length) K => slS_is (H := K) (u := u) (n := 3) (k := .i64) h
  have d4 := fun (h : 4 ≤ u.length) K => slS_is (H := K) (u := u) (n := 4) (k := .i64) h
  simp only [show ((4 : Nat) : Int) = 4 from rfl, show ((2 : Nat) : Int) = 2 from rfl, show ((3 : Nat) : Int) = 3 from rfl] at d2 d3 d4
  rw [if_neg (show ¬ bN u 0 < 128 by omega)]
  by_cases hx : 240 ≤ Lib.firstT (bN u 0)
  · have ex := ua3 h0 hx
    rw [ex] at hia hac s4 a7 w1
    simp only [show 241 % 8 = 1 from rfl, show 241 / 16 = 15 from rfl, show ((1 : Nat) : Int) = 1 from rfl, show ((15 : Nat) : Int) = 15 from rfl, show ((241 : Nat) : Int) = 241 from rfl] at hia hac s4 a7 w1
    rw [if_pos hx, if_pos rfl]
    refine ⟨[.cells [.int .u8 (Lib.accLo 15), .int .u8 (Lib.accHi 15)]], ?_⟩
    rw [u0c]
    simp +contextual -dsimp (disch := omega) only [↓goDown, goUp, cr, simprocAttr, u0e, x0, c0, c1, hia, hac, s4, a7, w1]
  · have hm8 := u7c h0 hx
    rw [if_neg hx]
    generalize Lib.firstT (bN u 0) = x at *
    have x16 : x / 16 < 16 := by omega
    rw [u0c]
    generalize bN u 1 = b1 at *
    generalize bN u 2 = b2 at *
    generalize bN u 3 = b3 at *
    have hcont : ∀ k, 1 ≤ k → ∃ E, run (u02 (SB (u.drop k)) v2) (hadd H [.cells [.int .u8 (Lib.accLo (x / 16)), .int .u8 (Lib.accHi (x / 16))]]) = some (.ok (.bool (Lib.validD (u.drop k))) (hadd (hadd H [.cells [.int .u8 (Lib.accLo (x / 16)), .int .u8 (Lib.accHi (x / 16))]]) E)) :=
      fun k hk => hm (u.drop k) _ (by rw [List.length_drop]; omega) (by rw [List.length_drop]; omega)
    generalize Lib.accLo (x / 16) = lo at *
    generalize Lib.accHi (x / 16) = hi at *
    rcases hm8 with hs | hs | hs
    · rw [hs] at a7 w1 ⊢
      simp only [show ((2 : Nat) : Int) = 2 from rfl] at a7 w1
      by_cases q0 : u.length < 2
      · have t0 : ((u.length : Int) < 2) = True := eq_true (by omega)
        rw [if_pos q0, if_pos rfl]
        exact ⟨[.cells [.int .u8 lo, .int .u8 hi]], by simp +contextual -dsimp (disch := omega) only [↓goDown, goUp, cr, simprocAttr, u0e, x0, c0, c1, hia, hac, s4, a7, w1, t0]⟩
      · have t0 : ((u.length : Int) < 2) = False := eq_false (by omega)
        have r1 := r1 (by omega)
        have dd := d2 (by omega)
        rw [if_neg q0]
        by_cases l1 : b1 < lo
        · have tl1 : ((b1 : Int) < (lo : Int)) = True := eq_true (by omega)
          rw [if_pos (show b1 < lo ∨ hi < b1 from .inl l1), if_pos rfl]
          exact ⟨[.cells [.int .u8 lo, .int .u8 hi]], by simp +contextual -dsimp (disch := omega) only [↓goDown, goUp, cr, simprocAttr, u0e, x0, c0, c1, hia, hac, s4, a7, w1, t0, r1, dd, tl1]⟩
        · have tl1 : ((b1 : Int) < (lo : Int)) = False := eq_false (by omega)
          by_cases u1 : hi < b1
          · have tu1 : ((hi : Int) < (b1 : Int)) = True := eq_true (by omega)
            rw [if_pos (show b1 < lo ∨ hi < b1 from .inr u1), if_pos rfl]
            exact ⟨[.cells [.int .u8 lo, .int .u8 hi]], by simp +contextual -dsimp (disch := omega) only [↓goDown, goUp, cr, simprocAttr, u0e, x0, c0, c1, hia, hac, s4, a7, w1, t0, r1, dd, tl1, tu1]⟩
          · have tu1 : ((hi : Int) < (b1 : Int)) = False := eq_false (by omega)
            rw [if_neg (show ¬ (b1 < lo ∨ hi < b1) by omega)]
            rw [if_pos (show 2 ≤ 2 by decide)]
            rw [if_neg (show ¬ 2 = 0 by decide)]
            obtain ⟨E, ih⟩ := hcont 2 (by decide)
            refine ⟨[.cells [.int .u8 lo, .int .u8 hi]] ++ E, ?_⟩
            rw [← u2s]
            simp +contextual -dsimp (disch := omega) only [↓goDown, goUp, cr, simprocAttr, u0e, x0, c0, c1, hia, hac, s4, a7, w1, t0, r1, dd, tl1, tu1, ih]
    · rw [hs] at a7 w1 ⊢
      simp only [show ((3 : Nat) : Int) = 3 from rfl] at a7 w1
      by_cases q0 : u.length < 3
      · have t0 : ((u.length : Int) < 3) = True := eq_true (by omega)
        rw [if_pos q0, if_pos rfl]
        exact ⟨[.cells [.int .u8 lo, .int .u8 hi]], by simp +contextual -dsimp (disch := omega) only [↓goDown, goUp, cr, simprocAttr, u0e, x0, c0, c1, hia, hac, s4, a7, w1, t0]⟩
      · have t0 : ((u.length : Int) < 3) = False := eq_false (by omega)
        have r1 := r1 (by omega)
        have r2 := r2 (by omega)
        have dd := d3 (by omega)
        rw [if_neg q0]
        by_cases l1 : b1 < lo
        · have tl1 : ((b1 : Int) < (lo : Int)) = True := eq_true (by omega)
          rw [if_pos (show b1 < lo ∨ hi < b1 from .inl l1), if_pos rfl]
          exact ⟨[.cells [.int .u8 lo, .int .u8 hi]], by simp +contextual -dsimp (disch := omega) only [↓goDown, goUp, cr, simprocAttr, u0e, x0, c0, c1, hia, hac, s4, a7, w1, t0, r1, r2, dd, tl1]⟩
        · have tl1 : ((b1 : Int) < (lo : Int)) = False := eq_false (by omega)
          by_cases u1 : hi < b1
          · have tu1 : ((hi : Int) < (b1 : Int)) = True := eq_true (by omega)
            rw [if_pos (show b1 < lo ∨ hi < b1 from .inr u1), if_pos rfl]
            exact ⟨[.cells [.int .u8 lo, .int .u8 hi]], by simp +contextual -dsimp (disch := omega) only [↓goDown, goUp, cr, simprocAttr, u0e, x0, c0, c1, hia, hac, s4, a7, w1, t0, r1, r2, dd, tl1, tu1]⟩
          · have tu1 : ((hi : Int) < (b1 : Int)) = False := eq_false (by omega)
            rw [if_neg (show ¬ (b1 < lo ∨ hi < b1) by omega)]
            rw [if_neg (show ¬ 3 ≤ 2 by decide)]
            by_cases l2 : b2 < 128
            · have tl2 : ((b2 : Int) < (128 : Int)) = True := eq_true (by omega)
              rw [if_pos (show b2 < 128 ∨ 191 < b2 from .inl l2), if_pos rfl]
              exact ⟨[.cells [.int .u8 lo, .int .u8 hi]], by simp +contextual -dsimp (disch := omega) only [↓goDown, goUp, cr, simprocAttr, u0e, x0, c0, c1, hia, hac, s4, a7, w1, t0, r1, r2, dd, tl1, tu1, tl2]⟩
            · have tl2 : ((b2 : Int) < (128 : Int)) = False := eq_false (by omega)
              by_cases u2 : 191 < b2
              · have tu2 : ((191 : Int) < (b2 : Int)) = True := eq_true (by omega)
                rw [if_pos (show b2 < 128 ∨ 191 < b2 from .inr u2), if_pos rfl]
                exact ⟨[.cells [.int .u8 lo, .int .u8 hi]], by simp +contextual -dsimp (disch := omega) only [↓goDown, goUp, cr, simprocAttr, u0e, x0, c0, c1, hia, hac, s4, a7, w1, t0, r1, r2, dd, tl1, tu1, tl2, tu2]⟩
              · have tu2 : ((191 : Int) < (b2 : Int)) = False := eq_false (by omega)
                rw [if_neg (show ¬ (b2 < 128 ∨ 191 < b2) by omega)]
                rw [if_pos (show 3 ≤ 3 by decide)]
                rw [if_neg (show ¬ 3 = 0 by decide)]
                obtain ⟨E, ih⟩ := hcont 3 (by decide)
                refine ⟨[.cells [.int .u8 lo, .int .u8 hi]] ++ E, ?_⟩
                rw [← u2s]
                simp +contextual -dsimp (disch := omega) only [↓goDown, goUp, cr, simprocAttr, u0e, x0, c0, c1, hia, hac, s4, a7, w1, t0, r1, r2, dd, tl1, tu1, tl2, tu2, ih]
    · rw [hs] at a7 w1 ⊢
      simp only [show ((4 : Nat) : Int) = 4 from rfl] at a7 w1
      by_cases q0 : u.length < 4
      · have t0 : ((u.length : Int) < 4) = True := eq_true (by omega)
        rw [if_pos q0, if_pos rfl]
        exact ⟨[.cells [.int .u8 lo, .int .u8 hi]], by simp +contextual -dsimp (disch := omega) only [↓goDown, goUp, cr, simprocAttr, u0e, x0, c0, c1, hia, hac, s4, a7, w1, t0]⟩
      · have t0 : ((u.length : Int) < 4) = False := eq_false (by omega)
        have r1 := r1 (by omega)
        have r2 := r2 (by omega)
        have r3 := r3 (by omega)
        have dd := d4 (by omega)
        rw [if_neg q0]
        by_cases l1 : b1 < lo
        · have tl1 : ((b1 : Int) < (lo : Int)) = True := eq_true (by omega)
          rw [if_pos (show b1 < lo ∨ hi < b1 from .inl l1), if_pos rfl]
          exact ⟨[.cells [.int .u8 lo, .int .u8 hi]], by simp +contextual -dsimp (disch := omega) only [↓goDown, goUp, cr, simprocAttr, u0e, x0, c0, c1, hia, hac, s4, a7, w1, t0, r1, r2, r3, dd, tl1]⟩
        · have tl1 : ((b1 : Int) < (lo : Int)) = False := eq_false (by omega)
          by_cases u1 : hi < b1
          · have tu1 : ((hi : Int) < (b1 : Int)) = True := eq_true (by omega)
            rw [if_pos (show b1 < lo ∨ hi < b1 from .inr u1), if_pos rfl]
            exact ⟨[.cells [.int .u8 lo, .int .u8 hi]], by simp +contextual -dsimp (disch := omega) only [↓goDown, goUp, cr, simprocAttr, u0e, x0, c0, c1, hia, hac, s4, a7, w1, t0, r1, r2, r3, dd, tl1, tu1]⟩
          · have tu1 : ((hi : Int) < (b1 : Int)) = False := eq_false (by omega)
            rw [if_neg (show ¬ (b1 < lo ∨ hi < b1) by omega)]
            rw [if_neg (show ¬ 4 ≤ 2 by decide)]
            by_cases l2 : b2 < 128
            · have tl2 : ((b2 : Int) < (128 : Int)) = True := eq_true (by omega)
              rw [if_pos (show b2 < 128 ∨ 191 < b2 from .inl l2), if_pos rfl]
              exact ⟨[.cells [.int .u8 lo, .int .u8 hi]], by simp +contextual -dsimp (disch := omega) only [↓goDown, goUp, cr, simprocAttr, u0e, x0, c0, c1, hia, hac, s4, a7, w1, t0, r1, r2, r3, dd, tl1, tu1, tl2]⟩
            · have tl2 : ((b2 : Int) < (128 : Int)) = False := eq_false (by omega)
              by_cases u2 : 191 < b2
              · have tu2 : ((191 : Int) < (b2 : Int)) = True := eq_true (by omega)
                rw [if_pos (show b2 < 128 ∨ 191 < b2 from .inr u2), if_pos rfl]
                exact ⟨[.cells [.int .u8 lo, .int .u8 hi]], by simp +contextual -dsimp (disch := omega) only [↓goDown, goUp, cr, simprocAttr, u0e, x0, c0, c1, hia, hac, s4, a7, w1, t0, r1, r2, r3, dd, tl1, tu1, tl2, tu2]⟩
              · have tu2 : ((191 : Int) < (b2 : Int)) = False := eq_false (by omega)
                rw [if_neg (show ¬ (b2 < 128 ∨ 191 < b2) by omega)]
                rw [if_neg (show ¬ 4 ≤ 3 by decide)]
                by_cases l3 : b3 < 128
                · have tl3 : ((b3 : Int) < (128 : Int)) = True := eq_true (by omega)
                  rw [if_pos (show b3 < 128 ∨ 191 < b3 from .inl l3), if_pos rfl]
                  exact ⟨[.cells [.int .u8 lo, .int .u8 hi]], by simp +contextual -dsimp (disch := omega) only [↓goDown, goUp, cr, simprocAttr, u0e, x0, c0, c1, hia, hac, s4, a7, w1, t0, r1, r2, r3, dd, tl1, tu1, tl2, tu2, tl3]⟩
                · have tl3 : ((b3 : Int) < (128 : Int)) = False := eq_false (by omega)
                  by_cases u3 : 191 < b3
                  · have tu3 : ((191 : Int) < (b3 : Int)) = True := eq_true (by omega)
                    rw [if_pos (show b3 < 128 ∨ 191 < b3 from .inr u3), if_pos rfl]
                    exact ⟨[.cells [.int .u8 lo, .int .u8 hi]], by simp +contextual -dsimp (disch := omega) only [↓goDown, goUp, cr, simprocAttr, u0e, x0, c0, c1, hia, hac, s4, a7, w1, t0, r1, r2, r3, dd, tl1, tu1, tl2, tu2, tl3, tu3]⟩
                  · have tu3 : ((191 : Int) < (b3 : Int)) = False := eq_false (by omega)
                    rw [if_neg (show ¬ (b3 < 128 ∨ 191 < b3) by omega)]
                    rw [if_neg (show ¬ 4 = 0 by decide)]
                    obtain ⟨E, ih⟩ := hcont 4 (by decide)
                    refine ⟨[.cells [.int .u8 lo, .int .u8 hi]] ++ E, ?_⟩
                    rw [← u2s]
                    simp +contextual -dsimp (disch := omega) only [↓goDown, goUp, cr, simprocAttr, u0e, x0, c0, c1, hia, hac, s4, a7, w1, t0, r1, r2, r3, dd, tl1, tu1, tl2, tu2, tl3, tu3, ih]
theorem u5j {v2 : PV} : ∀ n, VOk v2 n
  | 0 => fun u H hn hu => by
    obtain rfl : u = [] := List.eq_nil_of_length_eq_zero (by omega)
    refine ⟨[], ?_⟩
    rw [u0c, show hadd H [] = H from List.append_nil _]
    simp +contextual -dsimp (disch := omega) only [↓goDown, goUp, cr, simprocAttr, u0e, List.length_nil, show ((0 : Nat) : Int) = 0 from rfl, Int.lt_irrefl]
    rfl
  | n + 1 => fun u H hn hu => by
    by_cases h : u = []
    · subst h
      refine ⟨[], ?_⟩
      rw [u0c, show hadd H [] = H from List.append_nil _]
      simp +contextual -dsimp (disch := omega) only [↓goDown, goUp, cr, simprocAttr, u0e, List.length_nil, show ((0 : Nat) : Int) = 0 from rfl, Int.lt_irrefl]
      rfl
    · by_cases h0 : bN u 0 < 128
      · exact ukq (v3 := v2) (u5j n) hn hu h h0
      · exact uio (u5j n) hn hu h (by omega)
theorem uhj {u : List UInt8} (hu : u.length < 2 ^ 60) : run (C u0h [SB u]) H = some (.ok (.bool (Lib.validD u)) H) := by
  obtain ⟨E, e⟩ := u5j (v2 := .bool false) u.length u H (Nat.le_refl _) hu
  rw [u30]
  simp +contextual -dsimp (disch := omega) only [↓goDown, goUp, cr, simprocAttr, e]
theorem u52 {b : List UInt8} : ∀ (f a : Nat), b.length - a < f → (badAt b f a = none ↔ Lib.validD (b.drop a) = true)
  | 0, a, h => by omega
  | f + 1, a, h => by
    rw [badAt]
    by_cases hl : a < b.length
    · rw [if_pos hl]
      have hne : b.drop a ≠ [] := fun g => by have := congrArg List.length g; rw [List.length_drop] at this; simp at this; omega
      by_cases h0 : bN (b.drop a) 0 < 128
      · have e : letL (b.drop a) = 1 := by unfold letL letN; rw [if_pos h0]
        rw [e, if_neg (by decide), u52 f (a + 1) (by omega), Lib.validD_ascii 1 _ (uji hne h0), List.drop_drop]
      · rw [u92 hne (by omega)]
        by_cases h1 : letL (b.drop a) = 0
        · rw [if_pos h1, if_pos h1]
          simp
        · rw [if_neg h1, if_neg h1, u52 f _ (by omega), List.drop_drop]
    · rw [if_neg hl, List.drop_eq_nil_of_le (by omega)]
      simp
      rfl
theorem ugt {b : List UInt8} : Lib.validD b = (utfN b).isNone := by
  have h := u52 (b := b) (b.length + 1) 0 (by omega)
  unfold utfN
  rw [List.drop_zero] at h
  cases hb : badAt b (b.length + 1) 0 with
  | none => rw [hb] at h; exact h.mp rfl
  | some x =>
    rw [hb] at h
    cases hv : Lib.validD b with
    | false => rfl
    | true => exact absurd (h.mpr hv) (by simp)
end Go.Proofs.YtiamjepnlnjlfaaDoor.Pi.Q
namespace Go.Proofs.YtiamjepnlnjlfaaDoor.Pi.Q
open Go Go.Proofs.YtiamjepnlnjlfaaDoor.Pi
attribute [local congr] ite_congr
variable {H : Heap} {z : Bool}
theorem u8h {n : Nat} {s : ByteArray} : (PV.str s).low n = true := nrfl rfl
end Go.Proofs.YtiamjepnlnjlfaaDoor.Pi.Q
namespace Go.Proofs.YtiamjepnlnjlfaaDoor.Pi.Q
open Go Go.Proofs.YtiamjepnlnjlfaaDoor.Pi
attribute [local congr] ite_congr
variable {H : Heap} {z : Bool}
def wName (u : List UInt8) : List UInt8 × Nat := if 65536 < u.length then ([], 2) else if (utfN u).isSome then ([], 21) else (putU u.length ++ u, 0)
def putP (u : List UInt8) : PV := .tup [accB (wName u).1, .int .i64 (wName u).2]
theorem ap_str {acc u : List UInt8} {K : Heap} (ha : acc ≠ []) (h : acc.length + u.length ≤ 140737488355328) : run (ap true 1 1 (accB acc) (SB u)) K = some (.ok (accB (acc ++ u)) K) := by
  cases acc with
  | nil => exact absurd rfl ha
  | cons y a =>
    unfold accB accP run ap tail growB
    have h2 : ((byt y :: bytes a).length + (bytes u).length) * max 1 1 ≤ 140737488355328 := by simpa [bytes] using h
    have e : (u.map fun b => PV.int .u8 b.toNat) = bytes u := rfl
    simp only [bytes, List.map_cons, List.cons_append, List.map_append, beq_self_eq_true, Bool.or_true, cond_true, cond_false, Bool.true_and, e] at h2 ⊢
    rw [decide_eq_true h2]
    rfl
theorem low_B {b : List UInt8} {n : Nat} : (accB b).low n = true := u2l
theorem u2b {b : List UInt8} : isTup (accB b) = false := u20
theorem ugq {u : List UInt8} (hu : u.length < 2 ^ 60) : run (C u31 [SB u]) H = some (.ok (putP u) H) := by
  have hv := fun K => uhj (H := K) (u := u) (by omega)
  rw [ugt] at hv
  have hp := fun K => uju (H := K) (n := u.length) (by omega)
  have h10 := u47 (n := u.length) (by omega)
  have ha := fun (h : u.length ≤ 65536) K => ap_str (K := K) (acc := putU u.length) (u := u) uar (by omega)
  have e1 : IntKind.u64.wrap (u.length : Int) = (u.length : Int) := w_u64 (by omega)
  rw [u6b]
  unfold putP wName
  by_cases g : 65536 < u.length
  · have g' : ((65536 : Int) < (u.length : Int)) = True := eq_true (by omega)
    rw [if_pos g]
    simp +contextual -dsimp (disch := omega) only [↓goDown, goUp, cr, simprocAttr, u0e, g']
    rfl
  · have g' : ((65536 : Int) < (u.length : Int)) = False := eq_false (by omega)
    rw [if_neg g]
    have ha := ha (by omega)
    cases ht : utfN u with
    | some x =>
      rw [ht] at hv
      simp only [Option.isNone_some] at hv
      rw [if_pos (show (some x).isSome = true from rfl)]
      simp +contextual -dsimp (disch := omega) only [↓goDown, goUp, cr, simprocAttr, u0e, g', hv, un_not]
      rfl
    | none =>
      rw [ht] at hv
      simp only [Option.isNone_none] at hv
      rw [if_neg (show ¬ (none : Option Nat).isSome = true from by simp)]
      simp +contextual -dsimp (disch := omega) only [↓goDown, goUp, cr, simprocAttr, u0e, g', hv, un_not, e1, hp, ha, low_B, u2b]
theorem umb {u : List UInt8} {e : TypeId} {o : Bool} : run (cv (.strToBytes e) o (SB u)) H = some (.ok (BS false u) H) := nrfl rfl
theorem ue0 {u : List UInt8} (hu : u.length < 2 ^ 60) : run (C u1w [SB u]) H = some (.ok (putP u) H) := by
  have hv := fun K => uko (H := K) (z := false) (b := u) (by omega)
  have hp := fun K => ufr (H := K) (n := u.length) (by omega)
  have h10 := u47 (n := u.length) (by omega)
  have ha := fun (h : u.length ≤ 65536) K => ap_str (K := K) (acc := putU u.length) (u := u) uar (by omega)
  have e1 : IntKind.u64.wrap (u.length : Int) = (u.length : Int) := w_u64 (by omega)
  have hs := fun K e o => umb (H := K) (u := u) (e := e) (o := o)
  rw [u3q]
  unfold putP wName
  by_cases g : 65536 < u.length
  · have g' : ((65536 : Int) < (u.length : Int)) = True := eq_true (by omega)
    rw [if_pos g]
    simp +contextual -dsimp (disch := omega) only [↓goDown, goUp, cr, simprocAttr, u0e, g']
    rfl
  · have g' : ((65536 : Int) < (u.length : Int)) = False := eq_false (by omega)
    rw [if_neg g]
    have ha := ha (by omega)
    cases ht : utfN u with
    | some x =>
      rw [ht] at hv
      simp only [utfR] at hv
      rw [if_pos (show (some x).isSome = true from rfl)]
      simp +contextual -dsimp (disch := omega) only [↓goDown, goUp, cr, simprocAttr, u0e, g', hs, hv, un_not]
      rfl
    | none =>
      rw [ht] at hv
      simp only [utfR] at hv
      rw [if_neg (show ¬ (none : Option Nat).isSome = true from by simp)]
      simp +contextual -dsimp (disch := omega) only [↓goDown, goUp, cr, simprocAttr, u0e, g', hs, hv, un_not, e1, hp, ha, low_B, u2b]
end Go.Proofs.YtiamjepnlnjlfaaDoor.Pi.Q
namespace Go.Proofs.YtiamjepnlnjlfaaDoor.Pi.Q
open Go Go.Proofs.YtiamjepnlnjlfaaDoor.Pi
attribute [local congr] ite_congr
variable {H : Heap} {z : Bool}
def mk (i : Nat) : List UInt8 := (List.range i).map fun k => UInt8.ofNat (200 + k)
theorem toL_SB {u : List UInt8} : ByteArray.toList ⟨⟨u⟩⟩ = u := ByteArray.toList_eq ⟨⟨u⟩⟩
theorem cv_any {o z : Bool} {s : Nat} {u : List UInt8} : run (cv .bytesToStr o (.slice false z s (bytes u))) H = some (.ok (SB u) H) := by
  unfold run cv
  simp only [u7j]
  rfl
theorem umj {z z' : Bool} {s s' : Nat} {x y : List UInt8} : run (C u0p [.slice false z s (bytes x), .slice false z' s' (bytes y)]) H = some (.ok (.bool (x == y)) H) := by
  have hc := fun K o z s u => cv_any (H := K) (o := o) (z := z) (s := s) (u := u)
  rw [u4j]
  simp +contextual -dsimp (disch := omega) only [↓goDown, goUp, cr, simprocAttr, hc, toL_SB]
theorem ucv {z z' : Bool} {s s' : Nat} {x : List UInt8} : run (C u0p [.slice false z s (bytes x), .slice false z' s' (bytes x)]) H = some (.ok (.bool true) H) := by
  rw [umj, beq_self_eq_true]
theorem uks {u : List UInt8} : stripC (accB u) = shutP 1 (bytes u) := ugs
theorem ulm {u : List UInt8} : strip (accB u) = shutP 1 (bytes u) := ujj
end Go.Proofs.YtiamjepnlnjlfaaDoor.Pi.Q
namespace Go.Proofs.YtiamjepnlnjlfaaDoor.Pi
open Go.ChangeShapes Go.WideShapes
def litPV : Lit → PV
  | .int k n => .int k n
  | .bool b => .bool b
  | .string s => .str ⟨s.toArray⟩
  | _ => .undef
def wrapE (P : Program) (e : TypeId) (cs : List PV) : PV :=
  match tagg P e with
  | some _ => .agg cs
  | none => cs.headD .undef
mutual
def toldD {H : Type} (P : Program) : TypeId → DataW H → List PV
  | t, .lit l => [litPV l]
  | t, .nil => match P.underlying t with
    | some (.slice e) => [.slice false true 0 []]
    | _ => [.nil]
  | t, .slice elems _ => match P.underlying t with
    | some (.slice e) => [.slice false false (P.cellsOf e) (toldE P e elems)]
    | _ => []
  | t, .agg parts => match P.underlying t with
    | some (.struct fs) => toldF P fs.toList parts
    | _ => []
  | _, _ => []
def toldE {H : Type} (P : Program) (e : TypeId) : List (DataW H) → List PV
  | [] => []
  | d :: r => wrapE P e (toldD P e d) :: toldE P e r
def toldF {H : Type} (P : Program) : List Field → List (DataW H) → List PV
  | f :: fs, d :: r => toldD P f.type d ++ toldF P fs r
  | _, _ => []
end
def laidF (P : Program) : Nat → List Field → Option Nat
  | o, [] => some o
  | o, f :: r => bif f.offset == o then laidF P (o + P.cellsOf f.type) r else none
def plainT (P : Program) (T : List TypeId) (t : TypeId) : Bool :=
  match P.underlying t with
  | some .bool | some (.int _) | some .string => P.cellsOf t == 1 && (tagg P t).isNone
  | some (.slice e) => T.contains e && (decide (0 < P.cellsOf e) && (P.cellsOf t == 1 && (tagg P t).isNone))
  | some (.struct fs) => fs.toList.all (fun f => T.contains f.type) && (laidF P 0 fs.toList == some (P.cellsOf t) && (tagg P t).isSome)
  | _ => false
theorem uh6 {P : Program} {T : List TypeId} {e : TypeId} (he : plainT P T e = true) {cs : List PV} (hl : cs.length = P.cellsOf e) (hc : ∀ (j : Nat) (c : PV), cs[j]? = some c → isCell c = true) : (wrapE P e cs).cells = cs := by
  have one : P.cellsOf e = 1 → (tagg P e).isNone = true → (wrapE P e cs).cells = cs := fun h1 h2 => by
    obtain ⟨c, rfl⟩ : ∃ c, cs = [c] := by
      cases cs with
      | nil => simp at hl; omega
      | cons c r =>
        cases r with
        | nil => exact ⟨c, rfl⟩
        | cons d r => simp at hl; omega
    have hcell := hc 0 c rfl
    unfold wrapE
    cases ht : tagg P e with
    | some _ => rw [ht] at h2; cases h2
    | none =>
      simp only [List.headD_cons]
      cases c <;> first | rfl | cases hcell
  unfold plainT at he
  split at he
  · simp only [Bool.and_eq_true, beq_iff_eq] at he; exact one he.1 he.2
  · simp only [Bool.and_eq_true, beq_iff_eq] at he; exact one he.1 he.2
  · simp only [Bool.and_eq_true, beq_iff_eq] at he; exact one he.1 he.2
  · simp only [Bool.and_eq_true, beq_iff_eq] at he; exact one he.2.2.1 he.2.2.2
  · simp only [Bool.and_eq_true, beq_iff_eq] at he
    unfold wrapE
    cases ht : tagg P e with
    | some _ => rfl
    | none => rw [ht] at he; cases he.2.2
  · cases he
def ToldOk (W : World) (cs : List Value) (ps : List PV) : Prop :=
  ps.length = cs.length ∧ ∀ (j : Nat) (c : PV), ps[j]? = some c → isCell c = true ∧ ∀ v, cs[j]? = some v → RepF (imOf W) c v
theorem ToldOk.one {W : World} {c : PV} {v : Value} (h1 : isCell c = true) (h2 : RepF (imOf W) c v) : ToldOk W [v] [c] :=
  ⟨rfl, fun j d hd => by
    cases j with
    | zero => simp at hd; subst hd; exact ⟨h1, fun u hu => by simp at hu; subst hu; exact h2⟩
    | succ j => simp at hd⟩
variable {H : Type} {enc : TypeId × Value → H} {P : Program} {W : World} {base : Nat} {spare : Nat → Bool} {held : Bool} {T : List TypeId}
theorem u98 {W : World} {a : Addr} {n : Nat} {l : List Value} (hn : 0 < n) (h : W.cells? base a n = some l) : a.spot = none := by
  unfold World.cells? at h
  split at h
  · have h0 := mapM_some_get h 0 0 (by simp [hn])
    have : a.add 0 = a := by simp [Addr.add]
    rw [this] at h0
    unfold World.cell? at h0
    cases hs : a.spot with
    | none => rfl
    | some x =>
      rw [hs] at h0
      have hl := mapM_some_length h
      have hlt : 0 < l.length := by rw [hl]; simpa using hn
      rw [List.getElem?_eq_getElem hlt] at h0
      split at h0 <;> simp at h0
  · cases h
theorem ujr {W : World} {a : Addr} {n : Nat} {l : List Value} (h : W.cells? base a n = some l) (hs : a.spot = none) : l.length = n ∧ ∀ (j : Nat) (v : Value), l[j]? = some v → W.cell? ⟨a.block, a.off + j, none⟩ = some v := by
  unfold World.cells? at h
  split at h
  · refine ⟨by simpa using mapM_some_length h, fun j v hv => ?_⟩
    have hj : j < n := by
      have := (List.getElem?_eq_some_iff.mp hv).1
      have h2 := mapM_some_length h
      simp at h2
      omega
    have h0 := mapM_some_get h j j (by simp [hj])
    rw [hv] at h0
    have : a.add j = ⟨a.block, a.off + j, none⟩ := by
      obtain ⟨b, o, sp⟩ := a
      simp only at hs
      subst hs
      unfold Addr.add
      split <;> simp_all
    rw [this] at h0
    exact h0
  · cases h
theorem ud1 {P : Program} {e : TypeId} : ∀ (l : List (DataW H)) (i : Nat), (toldE P e l)[i]? = l[i]?.map fun d => wrapE P e (toldD P e d)
  | [], i => by simp [toldE]
  | d :: r, 0 => by simp [toldE]
  | d :: r, i + 1 => by simpa [toldE] using ud1 r i
theorem u5y {P : Program} {e : TypeId} : ∀ (l : List (DataW H)), (toldE P e l).length = l.length
  | [] => rfl
  | d :: r => by simp [toldE, u5y r]
theorem ToldOk.append {W : World} {cs ds : List Value} {ps qs : List PV} (h : ToldOk W cs ps) (k : ToldOk W ds qs) : ToldOk W (cs ++ ds) (ps ++ qs) := by
  refine ⟨by simp [h.1, k.1], fun j c hc => ?_⟩
  by_cases hj : j < ps.length
  · rw [List.getElem?_append_left hj] at hc
    obtain ⟨h1, h2⟩ := h.2 j c hc
    refine ⟨h1, fun v hv => h2 v ?_⟩
    rwa [List.getElem?_append_left (by rw [← h.1]; exact hj)] at hv
  · rw [List.getElem?_append_right (by omega)] at hc
    obtain ⟨h1, h2⟩ := k.2 _ c hc
    refine ⟨h1, fun v hv => h2 v ?_⟩
    rwa [List.getElem?_append_right (by rw [← h.1]; omega), ← h.1] at hv
theorem u6z (n : Nat) (ok : ∀ (t : TypeId) (cs : List Value) (x : DataW H × List MemPlace), T.contains t = true → DataW.trod enc P W base spare held n t cs = some x → cs.length = P.cellsOf t ∧ ToldOk W cs (toldD P t x.1)) (cs : List Value) :
    ∀ (fs : List Field) (o : Nat) (xs : List (DataW H × List MemPlace)), (∀ f ∈ fs, T.contains f.type = true) → laidF P o fs = some cs.length → xs.length = fs.length →
      (∀ (i : Nat) (f : Field), fs[i]? = some f → DataW.trod enc P W base spare held n f.type ((cs.drop f.offset).take (P.cellsOf f.type)) = xs[i]?) → o ≤ cs.length ∧ ToldOk W (cs.drop o) (toldF P fs (xs.map (·.1)))
  | [], o, xs, hT, hl, hx, h => by
    simp only [laidF, Option.some.injEq] at hl
    subst hl
    obtain rfl : xs = [] := List.eq_nil_of_length_eq_zero (by simpa using hx)
    exact ⟨Nat.le_refl _, by simp [toldF], by simp [toldF]⟩
  | f :: fs, o, xs, hT, hl, hx, h => by
    unfold laidF at hl
    cases ho : (f.offset == o) with
    | false => rw [ho] at hl; cases hl
    | true =>
      rw [ho] at hl
      simp only [cond_true] at hl
      obtain rfl : f.offset = o := by simpa using ho
      cases xs with
      | nil => simp at hx
      | cons y ys =>
        have h0 := h 0 f rfl
        simp only [List.getElem?_cons_zero] at h0
        obtain ⟨l1, l2⟩ := ok f.type _ y (hT f (by simp)) h0
        obtain ⟨k1, k2⟩ := u6z n ok cs fs _ ys (fun g hg => hT g (by simp [hg])) hl (by simpa using hx) (fun i g hg => by
          have := h (i + 1) g (by simpa using hg)
          simpa using this)
        refine ⟨by omega, ?_⟩
        have e1 : cs.drop f.offset = (cs.drop f.offset).take (P.cellsOf f.type) ++ cs.drop (f.offset + P.cellsOf f.type) := by
          rw [← List.drop_drop, List.take_append_drop]
        rw [e1]
        simp only [List.map_cons, toldF]
        exact l2.append k2
theorem told_ok (hT : T.all (plainT P T) = true) (hsp : ∀ b, spare b = true) : ∀ (n : Nat) (t : TypeId) (cs : List Value) (x : DataW H × List MemPlace), T.contains t = true → DataW.trod enc P W base spare held n t cs = some x → cs.length = P.cellsOf t ∧ ToldOk W cs (toldD P t x.1) := by
  intro n
  induction n with
  | zero => intro t cs x _ h; simp [DataW.trod] at h
  | succ n ih =>
  intro t cs x ht h
  have hp : plainT P T t = true := List.all_eq_true.mp hT t (by simpa using ht)
  have hp0 := hp
  unfold plainT at hp
  split at hp
  · rename_i hu
    simp only [Bool.and_eq_true, beq_iff_eq] at hp
    obtain ⟨b, rfl, rfl⟩ := DataW.trod_bool hu h
    refine ⟨by simp [hp.1], ?_⟩
    simp only [toldD, litPV]
    exact .one rfl (.bool b)
  · rename_i k hu
    simp only [Bool.and_eq_true, beq_iff_eq] at hp
    obtain ⟨m, rfl, rfl, _⟩ := DataW.trod_int hu h
    refine ⟨by simp [hp.1], ?_⟩
    simp only [toldD, litPV]
    exact .one rfl (.int k m)
  · rename_i hu
    simp only [Bool.and_eq_true, beq_iff_eq] at hp
    obtain ⟨s, rfl, rfl, _⟩ := DataW.trod_string hu h
    refine ⟨by simp [hp.1], ?_⟩
    simp only [toldD, litPV]
    have e : (⟨s.data.toList.toArray⟩ : ByteArray) = s := by rw [Array.toArray_toList]
    rw [e]
    exact .one rfl (.str s)
  · rename_i e hu
    simp only [Bool.and_eq_true, beq_iff_eq, decide_eq_true_eq] at hp
    obtain ⟨he, hz, h1, _⟩ := hp
    have hpe : plainT P T e = true := List.all_eq_true.mp hT e (by simpa using he)
    rcases DataW.trod_slice hu h with ⟨rfl, rfl⟩ | ⟨a, len, cap, elems, rest, m, hm, rfl, rfl, hb, hlc, hcm, hlen, hel, hre, hno⟩
    · refine ⟨by simp [h1], ?_⟩
      simp only [toldD, hu]
      exact .one rfl (.snil 0)
    · obtain rfl : m = n := by omega
      refine ⟨by simp [h1], ?_⟩
      simp only [toldD, hu]
      have each : ∀ (i : Nat) (y : DataW H × List MemPlace), elems[i]? = some y → ∃ l : List Value, W.cells? base (a.add (i * P.cellsOf e)) (P.cellsOf e) = some l ∧ l.length = P.cellsOf e ∧ ToldOk W l (toldD P e y.1) := by
        intro i y hy
        have hi : i < len := by
          have := (List.getElem?_eq_some_iff.mp hy).1
          omega
        have := hel i hi
        rw [hy, Option.bind_eq_some_iff] at this
        obtain ⟨l, hl, hd⟩ := this
        obtain ⟨q1, q2⟩ := ih e l y he hd
        exact ⟨l, hl, q1, q2⟩
      have spot : a.spot = none ∨ cap = 0 := by
        by_cases hc : cap = 0
        · exact .inr hc
        · left
          have add0 : a.add (0 * P.cellsOf e) = a := by simp [Addr.add]
          by_cases hl0 : len = 0
          · obtain ⟨r1, r2⟩ := hre (hsp _)
            have := r2 0 (by omega)
            have hlt : 0 < rest.length := by omega
            rw [List.getElem?_eq_getElem hlt, Option.bind_eq_some_iff] at this
            obtain ⟨l, hl, _⟩ := this
            rw [hl0] at hl
            rw [show (0 + 0) * P.cellsOf e = 0 * P.cellsOf e by simp, add0] at hl
            exact u98 hz hl
          · have hlt : 0 < elems.length := by omega
            obtain ⟨l, hl, _⟩ := each 0 _ (List.getElem?_eq_getElem hlt)
            rw [add0] at hl
            exact u98 hz hl
      obtain ⟨g, o, sp⟩ := a
      have hcap : cap = 0 → elems = [] := fun h => List.eq_nil_of_length_eq_zero (by omega)
      have hL : (toldE P e (elems.map (·.1))).length = len := by rw [u5y, List.length_map, hlen]
      have hget : ∀ (i : Nat) (x : PV), (toldE P e (elems.map (·.1)))[i]? = some x → sp = none ∧ ∃ l : List Value, (∀ (j : Nat) (v : Value), l[j]? = some v → imOf W g (o + i * P.cellsOf e + j) = some v) ∧ l.length = P.cellsOf e ∧ x.cells.length = P.cellsOf e ∧ ∀ (j : Nat) (c : PV), x.cells[j]? = some c → ∀ v, l[j]? = some v → RepF (imOf W) c v := by
        intro i x hx
        rw [ud1, List.getElem?_map] at hx
        cases hy : elems[i]? with
        | none => rw [hy] at hx; simp at hx
        | some y =>
          rw [hy] at hx
          simp only [Option.map_some, Option.some.injEq] at hx
          have hsn : sp = none := by
            rcases spot with h | h
            · exact h
            · rw [hcap h] at hy; simp at hy
          subst hsn
          obtain ⟨l, hl, q1, q2⟩ := each i y hy
          have hadd : (⟨g, o, none⟩ : Addr).add (i * P.cellsOf e) = ⟨g, o + i * P.cellsOf e, none⟩ := by unfold Addr.add; split <;> simp_all
          rw [hadd] at hl
          obtain ⟨_, q3⟩ := ujr hl rfl
          have hw := uh6 hpe (cs := toldD P e y.1) (by rw [q2.1, q1]) (fun j c hc => (q2.2 j c hc).1)
          rw [hx] at hw
          refine ⟨rfl, l, fun j v hv => q3 j v hv, q1, by rw [hw, q2.1, q1], fun j c hc v hv => ?_⟩
          rw [hw] at hc
          exact (q2.2 j c hc).2 v hv
      have hrep := RepF.slice (im := imOf W) (g := g) (o := o) (cap := cap) (sz := P.cellsOf e) (sp := sp) (xs := toldE P e (elems.map (·.1))) (fun i j => (imOf W g (o + i * P.cellsOf e + j)).getD .nilIface) spot (by omega)
        (fun i x hx => (hget i x hx).2.choose_spec.2.2.1)
        (fun i x j c hx hc => by
          obtain ⟨_, l, l1, l2, l3, l4⟩ := hget i x hx
          have hj : j < l.length := by
            have := (List.getElem?_eq_some_iff.mp hc).1
            omega
          rw [l1 j _ (List.getElem?_eq_getElem hj)]
          rfl)
        (fun i x j c hx hc => by
          obtain ⟨_, l, l1, l2, l3, l4⟩ := hget i x hx
          have hj : j < l.length := by
            have := (List.getElem?_eq_some_iff.mp hc).1
            omega
          rw [l1 j _ (List.getElem?_eq_getElem hj)]
          exact l4 j c hc _ (List.getElem?_eq_getElem hj))
      rw [hL] at hrep
      exact .one rfl hrep
  · rename_i fs hu
    simp only [Bool.and_eq_true, beq_iff_eq, List.all_eq_true] at hp
    obtain ⟨hTf, hlaid, _⟩ := hp
    obtain ⟨xs, m, hm, rfl, hcl, hxl, hx⟩ := DataW.trod_struct hu h
    obtain rfl : m = n := by omega
    refine ⟨hcl, ?_⟩
    simp only [toldD, hu]
    have := u6z (T := T) m (fun t cs x ht hk => ih t cs x ht hk) cs fs.toList 0 xs (fun f hf => hTf f hf) (by rw [hcl]; exact hlaid) (by simpa using hxl) (fun i f hf => hx i f (by simpa using hf))
    simpa using this.2
  · cases hp
end Go.Proofs.YtiamjepnlnjlfaaDoor.Pi
namespace Go.Proofs.YtiamjepnlnjlfaaDoor.Pi
def LZ (z : Bool) (sz : Nat) (l : List PV) : PV := match l with | [] => .slice false z (if z then 0 else sz) [] | l => .slice false false sz l
structure GL (α : Type) where
  z : Bool
  l : List α
  deriving DecidableEq
section
variable {z : Bool} {sz : Nat} {l : List PV} {H : Heap}
theorem u0v : isTup (LZ z sz l) = false := by cases l <;> rfl
theorem u0t : isVal (LZ z sz l) = true := by cases l <;> rfl
theorem u0i : isCell (LZ z sz l) = true := by cases l <;> rfl
theorem u0u : (LZ z sz l).cells = [LZ z sz l] := by cases l <;> rfl
theorem low_Z {n : Nat} : (LZ z sz l).low n = true := by cases l <;> simp [LZ, u42]
theorem strip_Z : strip (LZ z sz l) = LZ z sz l := by cases l <;> rfl
theorem u0j : stripC (LZ z sz l) = LZ z sz l := by cases l <;> rfl
theorem ln_Z : run (lnL (LZ z sz l)) H = some (.ok (.int .i64 l.length) H) := by cases l <;> rfl
theorem ia_Z {i : Nat} {x : PV} (h : l[i]? = some x) : run (iaS sz (LZ z sz l) (.int .i64 i)) H = some (.ok (.elem x.cells) H) := by
  cases l with
  | nil => simp at h
  | cons a r =>
    show run (iaS sz (.slice false false sz (a :: r)) (.int .i64 i)) H = _
    rw [uav (by omega), Int.toNat_natCast, h]
    rfl
end
theorem ujd {sz : Nat} {l : List PV} : Q.shutP sz l = LZ true sz l := by cases l <;> rfl
end Go.Proofs.YtiamjepnlnjlfaaDoor.Pi
namespace Go.Proofs.YtiamjepnlnjlfaaDoor.Pi
open Go.ChangeShapes Go.WideShapes
mutual
def bulk {H : Type} : DataW H → Nat
  | .lit (.string bytes) => bytes.length + 1
  | .lit _ => 1
  | .nil => 1
  | .ptr d => bulk d + 1
  | .slice elems spare => bulkL elems + bulkL spare + 1
  | .agg parts => bulkL parts + 1
  | _ => 1
def bulkL {H : Type} : List (DataW H) → Nat
  | [] => 0
  | d :: r => bulk d + bulkL r
end
section
variable {H : Type} {enc : TypeId × Value → H} {P : Program} {W : World} {base : Nat} {spare : Nat → Bool} {held : Bool} {A B : Type} {n : Nat} {t e : TypeId}
structure DecArgs (H : Type) where
  enc : TypeId × Value → H
  P : Program
  W : World
  base : Nat
  spare : Nat → Bool
  held : Bool
variable (G : DecArgs H)
def Dec (n : Nat) (t : TypeId) (cells : A → List PV) (ok : A → Prop) (ms : A → Nat) : Prop :=
  ∀ cs x, DataW.trod G.enc G.P G.W G.base G.spare G.held n t cs = some x → ∃ a, toldD G.P t x.1 = cells a ∧ ok a ∧ ms a ≤ bulk x.1
def DecF (n : Nat) (fs : List Field) (cells : A → List PV) (ok : A → Prop) (ms : A → Nat) : Prop :=
  ∀ (xs : List (DataW H × List MemPlace)), xs.length = fs.length → (∀ (i : Nat) (f : Field), fs[i]? = some f → ∃ cs, DataW.trod G.enc G.P G.W G.base G.spare G.held n f.type cs = xs[i]?) →
    ∃ a, toldF G.P fs (xs.map (·.1)) = cells a ∧ ok a ∧ ms a ≤ bulkL (xs.map (·.1))
variable {G}
theorem dec_int {k : IntKind} (hu : G.P.underlying t = some (.int k)) : Dec G n t (fun m : Int => [.int k m]) (fun m => (Lit.int k m).wf = true) (fun _ => 1) := by
  intro cs x h
  obtain ⟨m, rfl, rfl, hw⟩ := DataW.trod_int hu h
  exact ⟨m, by simp [toldD, litPV], hw, by simp [bulk]⟩
theorem dec_str (hu : G.P.underlying t = some .string) : Dec G n t (fun s : ByteArray => [.str s]) (fun s => s.size ≤ maxLen) (fun s => s.size + 1) := by
  intro cs x h
  obtain ⟨s, rfl, rfl, hs⟩ := DataW.trod_string hu h
  refine ⟨s, ?_, hs, ?_⟩
  · simp only [toldD, litPV]
  · simp only [bulk]
    exact Nat.le_of_eq (by simp)
theorem decF_nil : DecF G n [] (fun _ : Unit => []) (fun _ => True) (fun _ => 0) := by
  intro xs hl _
  exact ⟨(), by simp [toldF], trivial, Nat.zero_le _⟩
theorem decF_cons {f : Field} {fs : List Field} {cA : A → List PV} {okA : A → Prop} {mA : A → Nat} {cB : B → List PV} {okB : B → Prop} {mB : B → Nat} (ha : Dec G n f.type cA okA mA) (hb : DecF G n fs cB okB mB) :
    DecF G n (f :: fs) (fun p : A × B => cA p.1 ++ cB p.2) (fun p => okA p.1 ∧ okB p.2) (fun p => mA p.1 + mB p.2) := by
  intro xs hl h
  cases xs with
  | nil => simp at hl
  | cons y ys =>
    obtain ⟨cs, h0⟩ := h 0 f rfl
    simp only [List.getElem?_cons_zero] at h0
    obtain ⟨a, a1, a2, a3⟩ := ha _ _ h0
    obtain ⟨b, b1, b2, b3⟩ := hb ys (by simpa using hl) (fun i g hg => by simpa using h (i + 1) g (by simpa using hg))
    exact ⟨(a, b), by simp only [List.map_cons, toldF, a1, b1], ⟨a2, b2⟩, by simp only [List.map_cons, bulkL]; omega⟩
theorem dec_struct {fs : Array Field} {l : List Field} (hu : G.P.underlying t = some (.struct fs)) (hl : fs.toList = l) {cells : A → List PV} {ok : A → Prop} {ms : A → Nat} (h : ∀ m, n = m + 1 → DecF G m l cells ok ms) : Dec G n t cells ok (fun a => ms a + 1) := by
  intro cs x hx
  obtain ⟨xs, m, hm, rfl, hcl, hxl, hxi⟩ := DataW.trod_struct hu hx
  subst hl
  obtain ⟨a, a1, a2, a3⟩ := h m hm xs (by simpa using hxl) (fun i f hf => ⟨_, hxi i f (by simpa using hf)⟩)
  exact ⟨a, by simp only [toldD, hu, a1], a2, by simp only [bulk]; omega⟩
theorem Dec.map {cells : A → List PV} {ok : A → Prop} {ms : A → Nat} (h : Dec G n t cells ok ms) (f : A → B) {cB : B → List PV} {okB : B → Prop} {mB : B → Nat} (hc : ∀ a, cells a = cB (f a)) (ho : ∀ a, ok a → okB (f a)) (hm : ∀ a, mB (f a) ≤ ms a) : Dec G n t cB okB mB := by
  intro cs x hx
  obtain ⟨a, a1, a2, a3⟩ := h cs x hx
  exact ⟨f a, by rw [a1, hc], ho a a2, Nat.le_trans (hm a) a3⟩
def sumL {A : Type} (m : A → Nat) : List A → Nat
  | [] => 0
  | a :: r => m a + sumL m r
theorem ucx {cells : A → List PV} {ok : A → Prop} {ms : A → Nat} (h : Dec G n e cells ok ms) {ec : A → PV} (hec : ∀ a, wrapE G.P e (cells a) = ec a) : ∀ (ys : List (DataW H × List MemPlace)), (∀ y ∈ ys, ∃ cs, DataW.trod G.enc G.P G.W G.base G.spare G.held n e cs = some y) →
    ∃ l : List A, toldE G.P e (ys.map (·.1)) = l.map ec ∧ (∀ a ∈ l, ok a) ∧ sumL ms l ≤ bulkL (ys.map (·.1)) ∧ l.length = ys.length
  | [], _ => ⟨[], by simp [toldE], by simp, by simp [sumL], rfl⟩
  | y :: ys, hy => by
    obtain ⟨cs, h0⟩ := hy y (by simp)
    obtain ⟨a, a1, a2, a3⟩ := h _ _ h0
    obtain ⟨l, l1, l2, l3, l4⟩ := ucx h hec ys (fun z hz => hy z (by simp [hz]))
    refine ⟨a :: l, ?_, ?_, ?_, by simp [l4]⟩
    · simp only [List.map_cons, toldE, a1, hec, l1]
    · intro b hb
      rcases List.mem_cons.mp hb with rfl | hb
      · exact a2
      · exact l2 b hb
    · simp only [List.map_cons, sumL, bulkL]; omega
theorem dec_list {cells : A → List PV} {ok : A → Prop} {ms : A → Nat} (hu : G.P.underlying t = some (.slice e)) (h : ∀ m, n = m + 1 → Dec G m e cells ok ms) {ec : A → PV} (hec : ∀ a, wrapE G.P e (cells a) = ec a) {sz : Nat} (hsz : G.P.cellsOf e = sz) :
    Dec G n t (fun g : GL A => [LZ g.z sz (g.l.map ec)]) (fun g => ∀ a ∈ g.l, ok a) (fun g => sumL ms g.l + 1) := by
  intro cs x hx
  rcases DataW.trod_slice hu hx with ⟨rfl, rfl⟩ | ⟨a, len, cap, elems, rest, m, hm, rfl, rfl, hb, hlc, hcm, hlen, hel, hre, hno⟩
  · exact ⟨⟨true, []⟩, by simp [toldD, hu, LZ], by simp, by simp [bulk, sumL]⟩
  · obtain ⟨l, l1, l2, l3, l4⟩ := ucx (h m hm) hec elems (fun y hy => by
      obtain ⟨i, hi⟩ := List.getElem?_of_mem hy
      have hlt : i < len := by
        have := (List.getElem?_eq_some_iff.mp hi).1
        omega
      have := hel i hlt
      rw [hi, Option.bind_eq_some_iff] at this
      obtain ⟨cs, _, hd⟩ := this
      exact ⟨cs, hd⟩)
    refine ⟨⟨false, l⟩, ?_, l2, by simp only [bulk]; omega⟩
    simp only [toldD, hu, l1, hsz]
    cases l <;> rfl
end
end Go.Proofs.YtiamjepnlnjlfaaDoor.Pi
namespace Go.Proofs.YtiamjepnlnjlfaaDoor.Pi
open Go.ChangeShapes Go.WideShapes
theorem rep_cell {P : Program} {W : World} {base : Nat} {t : TypeId} {d : TypeDesc} {v : Value} {p : PV} (hu : P.underlying t = some d) (hd : ∀ fs, d ≠ .struct fs) (hd2 : ∀ n e, d ≠ .array n e) (hok : Value.okWide P W .any base t v) (ht : ToldOk W v.cells.toList [p]) : Rep [] (imOf W) p v := by
  have hv : v.cells = #[v] := by
    unfold Value.okWide at hok
    rw [hu] at hok
    cases d <;> first | (exact absurd rfl (hd _)) | (exact absurd rfl (hd2 _ _)) | skip
    all_goals (unfold Cell.okWide Cell.ok at hok; simp only [hu] at hok)
    all_goals (cases v <;> first | rfl | (simp at hok; done))
  rw [hv] at ht
  exact .flat ((ht.2 0 p rfl).2 v rfl)
theorem args_nil {im : Nat → Nat → Option Value} : ArgsOk (gOf im) [] #[] := ⟨rfl, fun j p v hp => by simp at hp⟩
theorem args_cons {im : Nat → Nat → Option Value} {p : PV} {v : Value} {ps : List PV} {vs : List Value} (h : Rep [] im p v) (hs : strip p = p) (hr : ArgsOk (gOf im) ps vs.toArray) : ArgsOk (gOf im) (p :: ps) (v :: vs).toArray := by
  refine ⟨by have := hr.size; simp at this ⊢; exact this, fun j q u hq hu => ?_⟩
  cases j with
  | zero =>
    simp at hq hu
    subst hq; subst hu
    exact ⟨.one (.pure h), hs⟩
  | succ j =>
    exact hr.rep j q u (by simpa using hq) (by simpa using hu)
end Go.Proofs.YtiamjepnlnjlfaaDoor.Pi
namespace Go.Proofs.YtiamjepnlnjlfaaDoor.Pi.Q
open Go Go.Proofs.YtiamjepnlnjlfaaDoor.Pi
def encU8 (n : Int) : PV := .int .u8 n
def toU8 (l : List Int) : List UInt8 := l.map fun n => UInt8.ofNat n.toNat
structure SC where
  id : Int
  name : ByteArray
  data : GL (Int)
  pl : Int
  deriving DecidableEq
def cs_SC (v : SC) : List PV := [.int .i64 v.id, .str v.name, LZ v.data.z 1 (v.data.l.map encU8), .int .i64 v.pl]
def ok_SC (v : SC) : Prop := (Lit.int .i64 v.id).wf = true ∧ v.name.size ≤ maxLen ∧ (∀ a ∈ v.data.l, (Lit.int .u8 a).wf = true) ∧ (Lit.int .i64 v.pl).wf = true ∧ True
def ms_SC (v : SC) : Nat := 1 + ((v.name.size + 1) + ((sumL (fun a => 1) v.data.l + 1) + (1 + (0)))) + 1
def encSC (v : SC) : PV := .agg [.int .i64 v.id, .str v.name, LZ v.data.z 1 (v.data.l.map encU8), .int .i64 v.pl]
structure SE where
  id : Int
  nm : List UInt8
  z : Bool
  d : List UInt8
  pl : Int
def cs_SE (v : SE) : List PV := [.int .i64 v.id, SB v.nm, LZ v.z 1 (bytes v.d), .int .i64 v.pl]
def encSE (v : SE) : PV := .agg (cs_SE v)
def SC.se (v : SC) : SE := ⟨v.id, v.name.data.toList, v.data.z, toU8 v.data.l, v.pl⟩
theorem ul4 {n : Nat} (h : n < 256) : (UInt8.ofNat n).toNat = n := by rw [UInt8.toNat_ofNat', Nat.mod_eq_of_lt h]
theorem ujy : ∀ {l : List Int}, (∀ a ∈ l, (Lit.int .u8 a).wf = true) → l.map encU8 = bytes (toU8 l)
  | [], h => rfl
  | a :: l, h => by
    have ha : 0 ≤ a ∧ a ≤ 255 := by
      have := h a (by simp)
      simp [Lit.wf, IntKind.min, IntKind.max, IntKind.bits, IntKind.signed] at this
      omega
    have ih := ujy (l := l) (fun x hx => h x (by simp [hx]))
    unfold toU8 at ih ⊢
    rw [List.map_cons, ih, List.map_cons]
    show encU8 a :: _ = byt (UInt8.ofNat a.toNat) :: _
    congr 1
    unfold byt encU8
    rw [ul4 (by omega)]
    congr 1
    omega
theorem ukt {v : SC} (h : ok_SC v) : encSC v = encSE v.se := by
  obtain ⟨_, _, o3, _⟩ := h
  unfold encSC encSE cs_SE SC.se
  rw [ujy o3]
end Go.Proofs.YtiamjepnlnjlfaaDoor.Pi.Q
namespace Go.Proofs.YtiamjepnlnjlfaaDoor.Pi.Q
open Go Go.Proofs.YtiamjepnlnjlfaaDoor.Pi
attribute [local congr] ite_congr
variable {H : Heap} {z : Bool}
def rkN (n : Int) : Int := if n < 0 ∨ 13 < n then -1 else if n = 13 then 6 else if n = 12 then 11 else if n ≤ 5 then n else if n ≤ 9 then n + 1 else n + 2
theorem ukb : run (C u3l []) H = some (.ok (.agg [.int .i64 0, .int .i64 1, .int .i64 2, .int .i64 3, .int .i64 4, .int .i64 5, .int .i64 7, .int .i64 8, .int .i64 9, .int .i64 10, .int .i64 12, .int .i64 13, .int .i64 11, .int .i64 6]) H) := by
  rw [u8t]
  simp +contextual -dsimp (disch := omega) only [↓goDown, goUp, cr, simprocAttr]
theorem ugf {n : Int} (h0 : ¬ n < 0) (h1 : ¬ 13 < n) : n = 0 ∨ n = 1 ∨ n = 2 ∨ n = 3 ∨ n = 4 ∨ n = 5 ∨ n = 6 ∨ n = 7 ∨ n = 8 ∨ n = 9 ∨ n = 10 ∨ n = 11 ∨ n = 12 ∨ n = 13 := by omega
theorem uk2 {n : Int} : run (C u3b [.int .i64 n]) H = some (.ok (.int .i64 (rkN n)) H) := by
  rw [uam]
  by_cases h0 : n < 0
  · rw [show rkN n = -1 from if_pos (.inl h0)]
    simp +contextual -dsimp (disch := omega) only [↓goDown, goUp, cr, simprocAttr, h0]
  · by_cases h1 : 13 < n
    · rw [show rkN n = -1 from if_pos (.inr h1)]
      simp +contextual -dsimp (disch := omega) only [↓goDown, goUp, cr, simprocAttr, h0, h1]
    · have hr := fun K => ukb (H := K)
      rcases ugf h0 h1 with rfl | rfl | rfl | rfl | rfl | rfl | rfl | rfl | rfl | rfl | rfl | rfl | rfl | rfl <;>
        simp +contextual -dsimp (disch := omega) only [↓goDown, goUp, cr, simprocAttr, hr, ulv, Int.cast_ofNat_Int] <;> rfl
theorem uep {n : Int} : run (C u1s [.int .i64 n]) H = some (.ok (.int .i64 (rkN n)) H) := by
  rw [u4o]
  by_cases h0 : n < 0
  · rw [show rkN n = -1 from if_pos (.inl h0)]
    simp +contextual -dsimp (disch := omega) only [↓goDown, goUp, cr, simprocAttr, h0]
  · by_cases h1 : 13 < n
    · rw [show rkN n = -1 from if_pos (.inr h1)]
      simp +contextual -dsimp (disch := omega) only [↓goDown, goUp, cr, simprocAttr, h0, h1]
    · rcases ugf h0 h1 with rfl | rfl | rfl | rfl | rfl | rfl | rfl | rfl | rfl | rfl | rfl | rfl | rfl | rfl <;>
        (simp +contextual -dsimp (disch := omega) only [↓goDown, goUp, cr, simprocAttr, Int.cast_ofNat_Int]; try rfl)
theorem ia_SE {zl : Bool} {l : List SE} {i : Nat} {v : SE} (h : l[i]? = some v) : run (iaS 4 (LZ zl 4 (l.map encSE)) (.int .i64 i)) H = some (.ok (.elem [.int .i64 v.id, SB v.nm, LZ v.z 1 (bytes v.d), .int .i64 v.pl]) H) :=
  ia_Z (x := encSE v) (by rw [List.getElem?_map, h]; rfl)
def SE.cp (v : SE) : SE := ⟨v.id, v.nm, true, v.d, v.pl⟩
theorem ulx {b : List UInt8} {zb : Bool} (hb : b.length ≤ 140737488355328) : run (ap true 1 1 (.slice false true 0 []) (LZ zb 1 (bytes b))) H = some (.ok (accB b) H) := by
  unfold run ap tail growB
  cases b with
  | nil => cases zb <;> rfl
  | cons c r =>
    have h2 : (bytes (c :: r)).length * max 1 1 ≤ 140737488355328 := by simpa [bytes] using hb
    simp only [bytes, List.map_cons, LZ, beq_self_eq_true, Bool.or_true, cond_true, List.isEmpty_cons, cond_false]
    simp only [bytes, List.map_cons] at h2
    rw [decide_eq_true h2]
    rfl
theorem ue3 {b : List UInt8} : (accB b).cells = [accB b] := ujk
theorem uaq {b : List UInt8} : isCell (accB b) = true := ugz
theorem u71 {b : List UInt8} : stripC (accB b) = LZ true 1 (bytes b) := by rw [uks, ujd]
theorem u29 {b : List UInt8} : strip (accB b) = LZ true 1 (bytes b) := by rw [ulm, ujd]
theorem uc6 {v : SE} (hd : v.d.length ≤ 140737488355328) : run (C u2o [.agg [.int .i64 v.id, SB v.nm, LZ v.z 1 (bytes v.d), .int .i64 v.pl]]) H = some (.ok (encSE v.cp) H) := by
  have ha := fun K => ulx (H := K) (zb := v.z) hd
  rw [u81]
  unfold encSE cs_SE SE.cp
  simp +contextual -dsimp (disch := omega) only [↓goDown, goUp, cr, simprocAttr, ha, u0v, u0t, u0u, low_Z, strip_Z, u0j, u0i, ue3, low_B, u2b, uaq, u71]
end Go.Proofs.YtiamjepnlnjlfaaDoor.Pi.Q
namespace Go.Proofs.YtiamjepnlnjlfaaDoor.Pi.Q
open Go Go.Proofs.YtiamjepnlnjlfaaDoor.Pi
attribute [local congr] ite_congr
variable {H : Heap} {z : Bool}
def fndSE (id : Int) : List SE → Option SE
  | [] => none
  | v :: r => if v.id = id then some v else fndSE id r
def zSE : List PV := [.int .i64 0, .str ⟨#[]⟩, .slice false true 0 [], .int .i64 0]
def fndP (f : SE → SE) : Option SE → PV
  | some v => .tup [encSE (f v), .bool true]
  | none => .tup [.agg zSE, .bool false]
theorem u37 {α : Type} {l : List α} {i : Nat} (h : i < l.length) : ∃ v, l[i]? = some v ∧ l.drop i = v :: l.drop (i + 1) := ⟨l[i], List.getElem?_eq_getElem h, List.drop_eq_getElem_cons h⟩
theorem uda {l : List SE} {zl : Bool} {id : Int} {v5 : PV} {c : Nat} (hd : ∀ v ∈ l, v.d.length ≤ 140737488355328) (hl : l.length < 2 ^ 60) : ∀ (m i : Nat) (K : Heap), i + m = l.length → hget K c = some (.cells zSE) →
    ∃ x E, run (u1o (.int .i64 id) (.ptr c 0) v5 (LZ zl 4 (l.map encSE)) (.int .i64 l.length) (.int .i64 i)) K = some (.ok (fndP SE.cp (fndSE id (l.drop i))) (hadd (hset K c x) E))
  | 0, i, K, h, hK => by
    have hid := get_lt hK
    have hset := u6h hK
    have g : ((i : Int) < (l.length : Int)) = False := eq_false (by omega)
    unfold zSE at hK hset
    refine ⟨.cells zSE, [], ?_⟩
    rw [u2w, List.drop_eq_nil_of_le (by omega)]
    unfold zSE fndSE fndP
    simp +contextual -dsimp (disch := omega) only [↓goDown, goUp, cr, simprocAttr, g, hK, hset]
    rw [show hadd K [] = K from List.append_nil K]
    rfl
  | m + 1, i, K, h, hK => by
    have hid := get_lt hK
    have hset := u6h hK
    have g : ((i : Int) < (l.length : Int)) = True := eq_true (by omega)
    obtain ⟨v, hv, hdr⟩ := u37 (l := l) (i := i) (by omega)
    have hia := fun K => ia_SE (H := K) (zl := zl) hv
    have hcp := fun K => uc6 (H := K) (hd v (List.mem_of_getElem? hv))
    have e1 : ((i : Int) + 1) = ((i + 1 : Nat) : Int) := rfl
    have w1 : IntKind.i64.wrap ((i + 1 : Nat) : Int) = ((i + 1 : Nat) : Int) := w_i64 (by omega)
    unfold encSE cs_SE SE.cp at hcp
    rw [u2w, hdr, fndSE]
    by_cases q : v.id = id
    · subst q
      rw [if_pos rfl]
      unfold zSE at hK hset
      rw [show fndP SE.cp (some v) = .tup [.agg [.int .i64 v.id, SB v.nm, LZ true 1 (bytes v.d), .int .i64 v.pl], .bool true] from rfl]
      refine ⟨.cells [.int .i64 v.id, SB v.nm, LZ true 1 (bytes v.d), .int .i64 v.pl], [.cells [.int .i64 v.id, SB v.nm, LZ v.z 1 (bytes v.d), .int .i64 v.pl]], ?_⟩
      · simp +contextual -dsimp (disch := omega) only [↓goDown, goUp, cr, simprocAttr, g, hK, hset, hia, hcp, u0v, u0t, u0u, low_Z, strip_Z, u0j, u0i]
    · have q' : (v.id = id) = False := eq_false q
      rw [if_neg q]
      have hK2 : hget (hadd K [.cells [.int .i64 v.id, SB v.nm, LZ v.z 1 (bytes v.d), .int .i64 v.pl]]) c = some (.cells zSE) := by rw [ua9 hid]; exact hK
      obtain ⟨x, E, ih⟩ := uda hd hl (id := id) (zl := zl) (v5 := v5) (c := c) m (i + 1) _ (by omega) hK2
      rw [uag hid, u2s] at ih
      refine ⟨x, [.cells [.int .i64 v.id, SB v.nm, LZ v.z 1 (bytes v.d), .int .i64 v.pl]] ++ E, ?_⟩
      · simp +contextual -dsimp (disch := omega) only [↓goDown, goUp, cr, simprocAttr, g, hK, hset, hia, hcp, q', u0v, u0t, u0u, low_Z, strip_Z, u0j, u0i, e1, w1]
        exact ih
theorem u9y {l : List SE} {zl : Bool} {id : Int} {v5 : PV} {c : Nat} (hl : l.length < 2 ^ 60) : ∀ (m i : Nat) (K : Heap), i + m = l.length → hget K c = some (.cells zSE) →
    ∃ x E, run (u0w (LZ zl 4 (l.map encSE)) (.int .i64 id) (.ptr c 0) v5 (.int .i64 i)) K = some (.ok (fndP (fun v => v) (fndSE id (l.drop i))) (hadd (hset K c x) E))
  | 0, i, K, h, hK => by
    have hid := get_lt hK
    have hset := u6h hK
    have g : ((i : Int) < (l.length : Int)) = False := eq_false (by omega)
    unfold zSE at hK hset
    refine ⟨.cells zSE, [], ?_⟩
    rw [u23, List.drop_eq_nil_of_le (by omega)]
    unfold zSE fndSE fndP
    simp +contextual -dsimp (disch := omega) only [↓goDown, goUp, cr, simprocAttr, g, hK, hset, strip_Z, ln_Z, List.length_map]
    rw [show hadd K [] = K from List.append_nil K]
    rfl
  | m + 1, i, K, h, hK => by
    have hid := get_lt hK
    have hset := u6h hK
    have g : ((i : Int) < (l.length : Int)) = True := eq_true (by omega)
    obtain ⟨v, hv, hdr⟩ := u37 (l := l) (i := i) (by omega)
    have hia := fun K => ia_SE (H := K) (zl := zl) hv
    have e1 : ((i : Int) + 1) = ((i + 1 : Nat) : Int) := rfl
    have w1 : IntKind.i64.wrap ((i + 1 : Nat) : Int) = ((i + 1 : Nat) : Int) := w_i64 (by omega)
    rw [u23, hdr, fndSE]
    by_cases q : v.id = id
    · subst q
      rw [if_pos rfl]
      unfold zSE at hK hset
      rw [show fndP (fun v => v) (some v) = .tup [.agg [.int .i64 v.id, SB v.nm, LZ v.z 1 (bytes v.d), .int .i64 v.pl], .bool true] from rfl]
      refine ⟨.cells [.int .i64 v.id, SB v.nm, LZ v.z 1 (bytes v.d), .int .i64 v.pl], [], ?_⟩
      · simp +contextual -dsimp (disch := omega) only [↓goDown, goUp, cr, simprocAttr, g, hK, hset, hia, u0v, u0t, u0u, low_Z, strip_Z, u0j, u0i, ln_Z, List.length_map]
        exact (congrArg (fun X => some (Out.ok _ X)) (List.append_nil _)).symm
    · have q' : (v.id = id) = False := eq_false q
      rw [if_neg q]
      obtain ⟨x, E, ih⟩ := u9y hl (id := id) (zl := zl) (v5 := v5) (c := c) m (i + 1) K (by omega) hK
      refine ⟨x, E, ?_⟩
      simp +contextual -dsimp (disch := omega) only [↓goDown, goUp, cr, simprocAttr, g, hK, hset, hia, q', u0v, u0t, u0u, low_Z, strip_Z, u0j, u0i, e1, w1, ln_Z, List.length_map]
      exact ih
theorem low_SE {v : SE} {n : Nat} : (encSE v).low n = true := by simp [encSE, cs_SE, u8c, u34, u3p, u51, u8h, low_Z]
theorem uil {f : SE → SE} {o : Option SE} {n : Nat} : (fndP f o).low n = true := by cases o <;> simp [fndP, zSE, u8e, u8c, u34, u3p, u51, u8h, u6k, u42, low_SE]
theorem ult {l : List SE} {zl : Bool} {id : Int} (hd : ∀ v ∈ l, v.d.length ≤ 140737488355328) (hl : l.length < 2 ^ 60) : run (C u2p [LZ zl 4 (l.map encSE), .int .i64 id]) H = some (.ok (fndP SE.cp (fndSE id l)) H) := by
  obtain ⟨x, E, h⟩ := uda (zl := zl) (id := id) (v5 := .bool false) (c := H.length) hd hl l.length 0 (hadd H [.cells zSE]) (by omega) u4c
  rw [u6e] at h
  unfold zSE at h
  rw [uak]
  simp +contextual -dsimp (disch := omega) only [↓goDown, goUp, cr, simprocAttr, strip_Z, ln_Z, List.length_map]
  have h : run (u1o (.int .i64 id) (.ptr H.length 0) (.bool false) (LZ zl 4 (l.map encSE)) (.int .i64 l.length) (.int .i64 0)) _ = _ := h
  rw [h]
  simp +contextual -dsimp (disch := omega) only [↓goDown, goUp, cr, simprocAttr, uil, List.drop_zero]
theorem uli {l : List SE} {zl : Bool} {id : Int} (hl : l.length < 2 ^ 60) : run (C u1c [LZ zl 4 (l.map encSE), .int .i64 id]) H = some (.ok (fndP (fun v => v) (fndSE id l)) H) := by
  obtain ⟨x, E, h⟩ := u9y (zl := zl) (id := id) (v5 := .bool false) (c := H.length) hl l.length 0 (hadd H [.cells zSE]) (by omega) u4c
  rw [u6e] at h
  unfold zSE at h
  rw [u4k]
  simp +contextual -dsimp (disch := omega) only [↓goDown, goUp, cr, simprocAttr, strip_Z, ln_Z, List.length_map]
  have h : run (u0w (LZ zl 4 (l.map encSE)) (.int .i64 id) (.ptr H.length 0) (.bool false) (.int .i64 0)) _ = _ := h
  rw [h]
  simp +contextual -dsimp (disch := omega) only [↓goDown, goUp, cr, simprocAttr, uil, List.drop_zero]
end Go.Proofs.YtiamjepnlnjlfaaDoor.Pi.Q
namespace Go.Proofs.YtiamjepnlnjlfaaDoor.Pi.Q
open Go Go.Proofs.YtiamjepnlnjlfaaDoor.Pi
attribute [local congr] ite_congr
variable {H : Heap} {z : Bool}
def cusSE (nm : List UInt8) : List SE → List SE
  | [] => []
  | v :: r => if v.id = 0 then (if v.nm = nm then v :: cusSE nm r else cusSE nm r) else cusSE nm r
theorem ulw {zb : Bool} {b : List UInt8} : (LZ zb 1 (bytes b)).flat = true := by
  cases b with
  | nil => cases zb <;> simp [LZ, PV.flat, flatL, bytes]
  | cons c r =>
    have : ∀ l : List UInt8, flatL (bytes l) = true := fun l => by
      induction l with
      | nil => rfl
      | cons x r ih => unfold bytes at ih ⊢; simp [flatL, byt, PV.flat, ih]
    have h := this (c :: r)
    simp only [bytes, List.map_cons] at h
    simp [LZ, PV.flat, bytes, h]
theorem bs_SE {v : SE} {K : Heap} : run (bs true (some 4) [encSE v]) K = some (.ok (.slice true false 4 [encSE v]) K) :=
  bs_agg (by simp [flatL, PV.flat, cs_SE, ulw]) rfl
theorem bsR_SE {v : SE} {K : Heap} : bsR true (some 4) [encSE v] K = some (.ok (.slice true false 4 [encSE v]) K) := by
  have h := bs_SE (v := v) (K := K)
  rw [run_bs] at h
  exact h
theorem uf9 {v : SE} : strip (encSE v) = encSE v := nrfl rfl
theorem ud8 {v : SE} : stripC (encSE v) = encSE v := nrfl rfl
theorem uh9 {nm : List UInt8} : ∀ {l : List SE}, (cusSE nm l).length ≤ l.length
  | [] => Nat.le_refl _
  | v :: r => by
    have ih := uh9 (nm := nm) (l := r)
    unfold cusSE
    split
    · split <;> simp <;> omega
    · simp; omega
theorem beqSB {a b : List UInt8} (h : a ≠ b) : (a == b) = false := beq_false_of_ne h
theorem uap {l : List SE} {zl : Bool} {nm : List UInt8} {v4 : PV} (hd : ∀ v ∈ l, v.d.length ≤ 140737488355328) (hl : l.length < 2 ^ 40) : ∀ (m i : Nat) (acc : List SE) (K : Heap), i + m = l.length → acc.length ≤ i →
    ∃ E, run (u17 (SB nm) v4 (accP 4 (acc.map encSE)) (LZ zl 4 (l.map encSE)) (.int .i64 l.length) (.int .i64 i)) K = some (.ok (accP 4 ((acc ++ (cusSE nm (l.drop i)).map SE.cp).map encSE)) (hadd K E))
  | 0, i, acc, K, h, ha => by
    have g : ((i : Int) < (l.length : Int)) = False := eq_false (by omega)
    refine ⟨[], ?_⟩
    rw [u2e, List.drop_eq_nil_of_le (by omega), show hadd K [] = K from List.append_nil K]
    simp +contextual -dsimp (disch := omega) only [↓goDown, goUp, cr, simprocAttr, g, u20, u2l, cusSE, List.map_nil, List.append_nil]
  | m + 1, i, acc, K, h, ha => by
    have g : ((i : Int) < (l.length : Int)) = True := eq_true (by omega)
    obtain ⟨v, hv, hdr⟩ := u37 (l := l) (i := i) (by omega)
    have hia := fun K => ia_SE (H := K) (zl := zl) hv
    have hcp := fun K => uc6 (H := K) (hd v (List.mem_of_getElem? hv))
    have e1 : ((i : Int) + 1) = ((i + 1 : Nat) : Int) := rfl
    have w1 : IntKind.i64.wrap ((i + 1 : Nat) : Int) = ((i + 1 : Nat) : Int) := w_i64 (by omega)
    have hb1 := fun K => bs_SE (v := v.cp) (K := K)
    have hb2 := fun K => bsR_SE (v := v.cp) (K := K)
    have hap := fun K => ap_acc (H := K) (sz := 4) (b := 56) (l := acc.map encSE) (v := encSE v.cp) (o := true) (by rw [List.length_map]; show (_ + 1) * 56 ≤ _; omega)
    have ha2 : acc.map encSE ++ [encSE v.cp] = (acc ++ [v.cp]).map encSE := by rw [List.map_append]; rfl
    rw [ha2] at hap
    obtain ⟨E0, ih0⟩ := uap hd hl (nm := nm) (zl := zl) (v4 := v4) m (i + 1) acc (hadd K [.cells [.int .i64 v.id, SB v.nm, LZ v.z 1 (bytes v.d), .int .i64 v.pl]]) (by omega) (by omega)
    obtain ⟨E1, ih1⟩ := uap hd hl (nm := nm) (zl := zl) (v4 := v4) m (i + 1) (acc ++ [v.cp]) (hadd K [.cells [.int .i64 v.id, SB v.nm, LZ v.z 1 (bytes v.d), .int .i64 v.pl]]) (by omega) (by rw [List.length_append]; simp; omega)
    rw [u2s] at ih0 ih1
    rw [u2e, hdr, cusSE]
    by_cases q : v.id = 0
    · rw [if_pos q]
      by_cases q2 : v.nm = nm
      · subst q2
        rw [if_pos rfl]
        refine ⟨[.cells [.int .i64 v.id, SB v.nm, LZ v.z 1 (bytes v.d), .int .i64 v.pl]] ++ E1, ?_⟩
        rw [q] at hia ih1 hcp
        simp +contextual -dsimp (disch := omega) only [↓goDown, goUp, cr, simprocAttr, g, hia, u0v, u0t, u0u, low_Z, strip_Z, u0j, u0i, e1, w1, toL_SB, beq_self_eq_true, hcp, uf9, ud8, hb1, hb2, hap, u1b, u20, u2l, q]
        rw [ih1, List.append_assoc]
        rfl
      · have q2' := beqSB q2
        rw [if_neg q2]
        refine ⟨[.cells [.int .i64 v.id, SB v.nm, LZ v.z 1 (bytes v.d), .int .i64 v.pl]] ++ E0, ?_⟩
        rw [q] at hia ih0
        simp +contextual -dsimp (disch := omega) only [↓goDown, goUp, cr, simprocAttr, g, hia, u0v, u0t, u0u, low_Z, strip_Z, u0j, u0i, e1, w1, toL_SB, q2', u1b, u20, u2l, q]
        exact ih0
    · have q' : (v.id = 0) = False := eq_false q
      rw [if_neg q]
      refine ⟨[.cells [.int .i64 v.id, SB v.nm, LZ v.z 1 (bytes v.d), .int .i64 v.pl]] ++ E0, ?_⟩
      simp +contextual -dsimp (disch := omega) only [↓goDown, goUp, cr, simprocAttr, g, hia, u0v, u0t, u0u, low_Z, strip_Z, u0j, u0i, e1, w1, q', u1b, u20, u2l]
      exact ih0
theorem u7k {l : List SE} {zl : Bool} {nm : List UInt8} {v4 : PV} (hl : l.length < 2 ^ 40) : ∀ (m i : Nat) (acc : List SE), i + m = l.length → acc.length ≤ i →
    run (u0m (LZ zl 4 (l.map encSE)) (SB nm) v4 (accP 4 (acc.map encSE)) (.int .i64 i)) H = some (.ok (accP 4 ((acc ++ cusSE nm (l.drop i)).map encSE)) H)
  | 0, i, acc, h, ha => by
    have g : ((i : Int) < (l.length : Int)) = False := eq_false (by omega)
    rw [u1n, List.drop_eq_nil_of_le (by omega)]
    simp +contextual -dsimp (disch := omega) only [↓goDown, goUp, cr, simprocAttr, g, u20, u2l, cusSE, List.append_nil, strip_Z, ln_Z, List.length_map]
  | m + 1, i, acc, h, ha => by
    have g : ((i : Int) < (l.length : Int)) = True := eq_true (by omega)
    obtain ⟨v, hv, hdr⟩ := u37 (l := l) (i := i) (by omega)
    have hia := fun K => ia_SE (H := K) (zl := zl) hv
    have e1 : ((i : Int) + 1) = ((i + 1 : Nat) : Int) := rfl
    have w1 : IntKind.i64.wrap ((i + 1 : Nat) : Int) = ((i + 1 : Nat) : Int) := w_i64 (by omega)
    have hb1 := fun K => bs_SE (v := v) (K := K)
    have hb2 := fun K => bsR_SE (v := v) (K := K)
    have hap := fun K => ap_acc (H := K) (sz := 4) (b := 56) (l := acc.map encSE) (v := encSE v) (o := true) (by rw [List.length_map]; show (_ + 1) * 56 ≤ _; omega)
    have ha2 : acc.map encSE ++ [encSE v] = (acc ++ [v]).map encSE := by rw [List.map_append]; rfl
    rw [ha2] at hap
    have ih0 := u7k hl (nm := nm) (zl := zl) (v4 := v4) m (i + 1) acc (by omega) (by omega)
    have ih1 := u7k hl (nm := nm) (zl := zl) (v4 := v4) m (i + 1) (acc ++ [v]) (by omega) (by rw [List.length_append]; simp; omega)
    rw [u1n, hdr, cusSE]
    by_cases q : v.id = 0
    · rw [if_pos q]
      by_cases q2 : v.nm = nm
      · subst q2
        rw [if_pos rfl]
        have hx : PV.agg [.int .i64 0, SB v.nm, LZ v.z 1 (bytes v.d), .int .i64 v.pl] = encSE v := by unfold encSE cs_SE; rw [q]
        have hx2 : ∀ K, bsR true (some 4) [PV.agg [.int .i64 0, SB v.nm, LZ v.z 1 (bytes v.d), .int .i64 v.pl]] K = some (.ok (.slice true false 4 [encSE v]) K) := fun K => by rw [hx]; exact hb2 K
        rw [q] at hia
        simp +contextual -dsimp (disch := omega) only [↓goDown, goUp, cr, simprocAttr, g, hia, u0v, u0t, u0u, low_Z, strip_Z, u0j, u0i, e1, w1, toL_SB, beq_self_eq_true, uf9, ud8, hx2, hap, u10, u20, u2l, q, ln_Z, List.length_map]
        rw [ih1, List.append_assoc]
        rfl
      · have q2' := beqSB q2
        rw [if_neg q2]
        rw [q] at hia
        simp +contextual -dsimp (disch := omega) only [↓goDown, goUp, cr, simprocAttr, g, hia, u0v, u0t, u0u, low_Z, strip_Z, u0j, u0i, e1, w1, toL_SB, q2', u10, u20, u2l, q, ln_Z, List.length_map]
        exact ih0
    · have q' : (v.id = 0) = False := eq_false q
      rw [if_neg q]
      simp +contextual -dsimp (disch := omega) only [↓goDown, goUp, cr, simprocAttr, g, hia, u0v, u0t, u0u, low_Z, strip_Z, u0j, u0i, e1, w1, q', u10, u20, u2l, ln_Z, List.length_map]
      exact ih0
end Go.Proofs.YtiamjepnlnjlfaaDoor.Pi.Q
namespace Go.Proofs.YtiamjepnlnjlfaaDoor.Pi.Q
open Go Go.Proofs.YtiamjepnlnjlfaaDoor.Pi
attribute [local congr] ite_congr
variable {H : Heap} {z : Bool}
theorem uh3 {l : List SE} {zl : Bool} {nm : List UInt8} (hd : ∀ v ∈ l, v.d.length ≤ 140737488355328) (hl : l.length < 2 ^ 40) : run (C u1y [LZ zl 4 (l.map encSE), SB nm]) H = some (.ok (accP 4 (((cusSE nm l).map SE.cp).map encSE)) H) := by
  obtain ⟨E, h⟩ := uap (zl := zl) (nm := nm) (v4 := .slice false true 0 []) hd hl l.length 0 [] H (by omega) (by simp)
  rw [List.nil_append, List.drop_zero] at h
  have h : run (u17 (SB nm) (.slice false true 0 []) (.slice false true 0 []) (LZ zl 4 (l.map encSE)) (.int .i64 l.length) (.int .i64 0)) H = _ := h
  rw [u6c]
  simp +contextual -dsimp (disch := omega) only [↓goDown, goUp, cr, simprocAttr, strip_Z, ln_Z, List.length_map, h, u2l]
theorem udn {l : List SE} {zl : Bool} {nm : List UInt8} (hl : l.length < 2 ^ 40) : run (C u12 [LZ zl 4 (l.map encSE), SB nm]) H = some (.ok (accP 4 ((cusSE nm l).map encSE)) H) := by
  have h := u7k (H := H) (zl := zl) (nm := nm) (v4 := .slice false true 0 []) hl l.length 0 [] (by omega) (by simp)
  rw [List.nil_append, List.drop_zero] at h
  have h : run (u0m (LZ zl 4 (l.map encSE)) (SB nm) (.slice false true 0 []) (.slice false true 0 []) (.int .i64 0)) H = _ := h
  rw [u3j]
  simp +contextual -dsimp (disch := omega) only [↓goDown, goUp, cr, simprocAttr, h, u2l]
theorem sameZ {z z' : Bool} {x : List UInt8} : run (C u0p [LZ z 1 (bytes x), LZ z' 1 (bytes x)]) H = some (.ok (.bool true) H) := by
  cases x with
  | nil => exact ucv (x := [])
  | cons c r => exact ucv (x := c :: r)
theorem u9s {l : List SE} {za zb : Bool} {v2 v6 : PV} (hv : v2 = .bool true) (hl : l.length < 2 ^ 40) : ∀ (m i : Nat), i + m = l.length →
    run (u0r (LZ za 4 ((l.map SE.cp).map encSE)) (LZ zb 4 (l.map encSE)) v2 v6 (.int .i64 i)) H = some (.ok (.bool true) H)
  | 0, i, h => by
    have g : ((i : Int) < (l.length : Int)) = False := eq_false (by omega)
    rw [u1v]
    simp +contextual -dsimp (disch := omega) only [↓goDown, goUp, cr, simprocAttr, g, strip_Z, ln_Z, List.length_map]
  | m + 1, i, h => by
    subst hv
    have g : ((i : Int) < (l.length : Int)) = True := eq_true (by omega)
    obtain ⟨v, hv, hdr⟩ := u37 (l := l) (i := i) (by omega)
    have ia1 : ∀ K, run (iaS 4 (LZ za 4 ((l.map SE.cp).map encSE)) (.int .i64 i)) K = some (.ok (.elem [.int .i64 v.id, SB v.nm, LZ true 1 (bytes v.d), .int .i64 v.pl]) K) := fun K => ia_SE (H := K) (zl := za) (l := l.map SE.cp) (i := i) (v := v.cp) (by rw [List.getElem?_map, hv]; rfl)
    have ia2 := fun K => ia_SE (H := K) (zl := zb) hv
    have hs := fun K z z' => sameZ (H := K) (z := z) (z' := z') (x := v.d)
    have e1 : ((i : Int) + 1) = ((i + 1 : Nat) : Int) := rfl
    have w1 : IntKind.i64.wrap ((i + 1 : Nat) : Int) = ((i + 1 : Nat) : Int) := w_i64 (by omega)
    have ih := u9s (za := za) (zb := zb) (v6 := v6) rfl hl m (i + 1) (by omega)
    rw [u1v]
    simp +contextual -dsimp (disch := omega) only [↓goDown, goUp, cr, simprocAttr, g, strip_Z, ln_Z, List.length_map, ia1, ia2, u0v, u0t, u0u, low_Z, u0j, u0i, toL_SB, beq_self_eq_true, hs, un_not, e1, w1, ih]
theorem ule {l : List SE} {za zb : Bool} (hl : l.length < 2 ^ 40) : run (C u1m [LZ za 4 ((l.map SE.cp).map encSE), LZ zb 4 (l.map encSE), .bool true]) H = some (.ok (.bool true) H) := by
  have h := fun v6 => u9s (H := H) (za := za) (zb := zb) (v2 := .bool true) (v6 := v6) rfl hl l.length 0 (by omega)
  have h : ∀ v6, run (u0r (LZ za 4 ((l.map SE.cp).map encSE)) (LZ zb 4 (l.map encSE)) (.bool true) v6 (.int .i64 0)) H = _ := h
  rw [u43]
  simp +contextual -dsimp (disch := omega) only [↓goDown, goUp, cr, simprocAttr, strip_Z, ln_Z, List.length_map, h]
end Go.Proofs.YtiamjepnlnjlfaaDoor.Pi.Q
