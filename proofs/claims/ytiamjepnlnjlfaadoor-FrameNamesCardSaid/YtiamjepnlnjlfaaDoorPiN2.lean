/- What the law rests on, part 3 of 4: a reading of the program's code over told data, and what it comes to. -/
import Derived.Test.YtiamjepnlnjlfaaDoorPiN1
set_option linter.unusedVariables false
set_option linter.unusedSimpArgs false
set_option maxRecDepth 100000
namespace Go.Proofs.YtiamjepnlnjlfaaDoor.Pi
variable {P : Program} {X : ExtT} {H : Heap}
def XSound (P : Program) (X : ExtT) : Prop :=
  ∀ f m, X f = some m → ∀ args H out, m args H = some out → u2x P f = true ∧ ∀ g w cargs, Inv g H w → ArgsOk g args cargs → Calls P f cargs w (u2o g w out)
theorem uhr (hX : XSound P X) (n : Nat) : CSound P (sem P X n).C ∧ udp P (sem P X n).CD := by
  induction n using Nat.strongRecOn with
  | _ n ih =>
    cases n with
    | zero => exact ⟨fun f args H out h => (u00 (H := H) h).elim, fun rv f args H out h => (u00 (H := H) h).elim⟩
    | succ n =>
      have hn := ih n (Nat.lt_succ_self n)
      refine ⟨fun f args H out h => ?_, fun rv f args H out h => ubv hn.1 h⟩
      have h : (match X f with | some m => m args | none => fnDen P (sem P X n).C (sem P X n).CD (sem P X n).L f args) H = some out := h
      cases hf : X f with
      | some m => rw [hf] at h; exact hX f m hf args H out h
      | none =>
        rw [hf] at h
        exact uem hn.1 hn.2 (fun fn => uh7 n (fun m hm => (ih m (by omega)).1) _ _ _ (fun m hm r f a => ukb m r f a (by omega)) n (Nat.le_refl n)) h
theorem udl (hX : XSound P X) : CSound P (callW P X) := by
  intro f args H out h
  obtain ⟨n, hn⟩ := ((u7u P X f args).lim H out).mp h
  exact (uhr hX n).1 f args H out hn
theorem noX : XSound P (fun _ => none) := fun f m h => by cases h
end Go.Proofs.YtiamjepnlnjlfaaDoor.Pi
namespace Go.Proofs.YtiamjepnlnjlfaaDoor.Pi
noncomputable def kAt (c : Ctx) (L : LoopT) : List Nat → List Tmp → Code → K → List Tmp × Code × K
  | [], af, co, k => (af, co, k)
  | 0 :: p, af, .seq a b, k => kAt c L p ((rw b).1 ++ af) a fun
    | .normal, env' => bif c.rc.isNone && joinB a then L af b (keep ((rw b).1 ++ af) env') k else den c L af b env' k
    | e, env' => k e env'
  | _ :: p, af, .seq a b, k => kAt c L p af b k
  | 0 :: p, af, .cond _ a b, k => kAt c L p af a k
  | _ :: p, af, .cond _ a b, k => kAt c L p af b k
  | _ :: p, af, .block id b, k => kAt c L p af b fun
    | .exit i, env' => bif i == id then k .normal env' else k (.exit i) env'
    | e, env' => k e env'
  | _ :: p, af, .loop b, k => kAt c L p (alive af b) b fun
    | .normal, env' => L af (.loop b) (keep (alive af b) env') k
    | e, env' => k e env'
  | _, af, co, k => (af, co, k)
section
variable (P : Program) (X : ExtT)
noncomputable def kOf (f : FuncId) (p : List Nat) : List Tmp × Code × K :=
  match P.funcs[f]? with
  | some fn => match fn.body with
    | some b => kAt (ctxW P X none (protOf fn) (resM P fn)) (loopW P X none (protOf fn) (resM P fn)) p (u63 fn) b fun
      | .exit _, _ => M.fail
      | _, env => resM P fn env
    | none => ([], .skip, fun _ _ => M.fail)
  | none => ([], .skip, fun _ _ => M.fail)
noncomputable def ctxOf (f : FuncId) : Ctx :=
  match P.funcs[f]? with
  | some fn => ctxW P X none (protOf fn) (resM P fn)
  | none => ctxW P X none [] (fun _ => M.fail)
noncomputable def atP (f : FuncId) (p : List Nat) (env : Env) : M PV :=
  loopW P X none (ctxOf P X f).prot (ctxOf P X f).res (kOf P X f p).1 (kOf P X f p).2.1 env (kOf P X f p).2.2
noncomputable def stepP (f : FuncId) (p : List Nat) (env : Env) : M PV :=
  go1 (ctxW P X none (ctxOf P X f).prot (ctxOf P X f).res) (loopW P X none (ctxOf P X f).prot (ctxOf P X f).res) (kOf P X f p).1 (kOf P X f p).2.1 env (kOf P X f p).2.2
theorem u0w (f : FuncId) (p : List Nat) (env : Env) : atP P X f p env = stepP P X f p env := ul3 P X none _ _ _ _ _ _
def mkEnv : Nat → Nat → List (Nat × PV) → Env
  | 0, _, _ => []
  | n + 1, i, (j, v) :: r => bif i == j then v :: mkEnv n (i + 1) r else .undef :: mkEnv n (i + 1) ((j, v) :: r)
  | n + 1, i, [] => .undef :: mkEnv n (i + 1) []
end
end Go.Proofs.YtiamjepnlnjlfaaDoor.Pi
namespace Go.Proofs.YtiamjepnlnjlfaaDoor.Pi
theorem nrfl {γ : Sort _} {a b : γ} (h : a = b) : a = b := h
variable {α β : Type} {H : Heap} {k : IntKind} {a b n m : Int} {x y : PV} {ek : EqK}
@[simp] theorem uci : strip (.int k n) = .int k n := nrfl rfl
@[simp] theorem u9n {t : Bool} : strip (.bool t) = .bool t := nrfl rfl
@[simp] theorem uc0 {s : ByteArray} : strip (.str s) = .str s := nrfl rfl
@[simp] theorem u8q {o z : Bool} {sz : Nat} {xs : List PV} : strip (.slice o z sz xs) = .slice false z sz xs := nrfl rfl
@[simp] theorem ubz {i o : Nat} : strip (.ptr i o) = .ptr i o := nrfl rfl
@[simp] theorem ucj {cs : List PV} : strip (.agg cs) = .agg cs := nrfl rfl
@[simp] theorem u9c {cs : List PV} : strip (.elem cs) = .elem cs := nrfl rfl
@[simp] theorem ub8 : strip .nil = .nil := nrfl rfl
@[simp] theorem u51 : strip .niliface = .niliface := nrfl rfl
@[simp] theorem u84 {t : TypeId} {v : PV} : strip (.iface t v) = .iface t v := nrfl rfl
@[simp] theorem ug8 {f : FuncId} {u v : List PV} : strip (.fn f u v) = .fn f u v := nrfl rfl
@[simp] theorem u7g : strip .undef = .undef := nrfl rfl
@[simp] theorem ud3 {vs : List PV} : strip (.tup vs) = .tup (vs.map stripC) := nrfl rfl
@[simp] theorem ua0 : stripC (.int k n) = .int k n := nrfl rfl
@[simp] theorem u87 {t : Bool} : stripC (.bool t) = .bool t := nrfl rfl
@[simp] theorem u9r {s : ByteArray} : stripC (.str s) = .str s := nrfl rfl
@[simp] theorem u66 {o z : Bool} {sz : Nat} {xs : List PV} : stripC (.slice o z sz xs) = .slice false z sz xs := nrfl rfl
@[simp] theorem ua3 {i o : Nat} : stripC (.ptr i o) = .ptr i o := nrfl rfl
@[simp] theorem u9a {cs : List PV} : stripC (.agg cs) = .agg cs := nrfl rfl
@[simp] theorem u9g : stripC .nil = .nil := nrfl rfl
@[simp] theorem u41 : stripC .niliface = .niliface := nrfl rfl
@[simp] theorem u6l {t : TypeId} {v : PV} : stripC (.iface t v) = .iface t v := nrfl rfl
@[simp] theorem uc1 {f : FuncId} {u v : List PV} : stripC (.fn f u v) = .fn f u v := nrfl rfl
@[simp] theorem bi_add : bi .add ek (.int k a) (.int k b) = M.pure (.int k (k.wrap (a + b))) := nrfl (by cases k <;> rfl)
@[simp] theorem bi_sub : bi .sub ek (.int k a) (.int k b) = M.pure (.int k (k.wrap (a - b))) := nrfl (by cases k <;> rfl)
@[simp] theorem bi_mul : bi .mul ek (.int k a) (.int k b) = M.pure (.int k (k.wrap (a * b))) := nrfl (by cases k <;> rfl)
@[simp] theorem bi_eql : bi .eql ek (.int k a) (.int k b) = M.pure (.bool (a == b)) := nrfl (by cases k <;> rfl)
@[simp] theorem bi_neq : bi .neq ek (.int k a) (.int k b) = M.pure (.bool (a != b)) := nrfl (by cases k <;> rfl)
@[simp] theorem bi_lss : bi .lss ek (.int k a) (.int k b) = M.pure (.bool (decide (a < b))) := nrfl (by cases k <;> rfl)
@[simp] theorem bi_leq : bi .leq ek (.int k a) (.int k b) = M.pure (.bool (decide (a ≤ b))) := nrfl (by cases k <;> rfl)
@[simp] theorem bi_gtr : bi .gtr ek (.int k a) (.int k b) = M.pure (.bool (decide (a > b))) := nrfl (by cases k <;> rfl)
@[simp] theorem bi_geq : bi .geq ek (.int k a) (.int k b) = M.pure (.bool (decide (a ≥ b))) := nrfl (by cases k <;> rfl)
@[simp] theorem uji {s t : ByteArray} : bi .eql ek (.str s) (.str t) = M.pure (.bool (s.toList == t.toList)) := nrfl rfl
@[simp] theorem ukf {s t : ByteArray} : bi .neq ek (.str s) (.str t) = M.pure (.bool (!(s.toList == t.toList))) := nrfl rfl
@[simp] theorem uhz {s t : Bool} : bi .eql .bool (.bool s) (.bool t) = M.pure (.bool (s == t)) := nrfl rfl
@[simp] theorem uj3 {s t : Bool} : bi .neq .bool (.bool s) (.bool t) = M.pure (.bool (!(s == t))) := nrfl rfl
@[simp] theorem un_not {t : Bool} : un .not (.bool t) = M.pure (.bool (!t)) := nrfl rfl
@[simp] theorem udg {o z : Bool} {sz : Nat} {xs : List PV} : lnL (.slice o z sz xs) = M.pure (.int .i64 xs.length) := nrfl rfl
@[simp] theorem uk9 {s : ByteArray} : lnS (.str s) = M.pure (.int .i64 s.size) := nrfl rfl
@[simp] theorem mx_int : mx (.int k a) (.int k b) = M.pure (.int k (if b > a then b else a)) := nrfl (by cases k <;> rfl)
@[simp] theorem mn_int : mn (.int k a) (.int k b) = M.pure (.int k (if b < a then b else a)) := nrfl (by cases k <;> rfl)
@[simp] theorem cv_int {o : Bool} {j : IntKind} : cv (.int k) o (.int j n) = M.pure (.int k (k.wrap n)) := nrfl rfl
@[simp] theorem un7 {v : PV} {r : List PV} : ex 0 (.tup (v :: r)) = M.pure v := nrfl rfl
@[simp] theorem un9 {u v : PV} {r : List PV} : ex 1 (.tup (u :: v :: r)) = M.pure v := nrfl rfl
@[simp] theorem un8 {t u v : PV} {r : List PV} : ex 2 (.tup (t :: u :: v :: r)) = M.pure v := nrfl rfl
end Go.Proofs.YtiamjepnlnjlfaaDoor.Pi
namespace Go.Proofs.YtiamjepnlnjlfaaDoor.Pi
variable {P : Program} {X : ExtT}
def gOf (im : Nat → Nat → Option Value) : G := ⟨[], im, fun _ => none⟩
theorem umd {im : Nat → Nat → Option Value} {w : World} (him : ∀ b o v, im b o = some v → w.cell? ⟨b, o, none⟩ = some v) (hg : GlobOk im) : Inv (gOf im) [] w :=
  ⟨rfl, fun i j b h => by simp [gOf] at h, him, fun b L s h => by simp [gOf] at h, fun id b y h => by simp [gOf] at h, hg⟩
theorem walk_law (hX : XSound P X) {f : FuncId} {args : List PV} {H' : Heap} (h : callW P X f args [] = some (.ok (.bool true) H')) {im : Nat → Nat → Option Value} {w : World} {cargs : Array Value}
    (him : ∀ b o v, im b o = some v → w.cell? ⟨b, o, none⟩ = some v) (ha : ArgsOk (gOf im) args cargs) (hg : GlobOk im) : Calls P f cargs w fun e w' => e = .returned (.bool true) ∧ RowKit.Below w.heap.size w w' := by
  obtain ⟨_, hs⟩ := udl hX f args [] _ h
  refine (hs (gOf im) w cargs (umd him hg) ha).mono ?_
  rintro e w' ⟨g', hgl, hgr, cv, rfl, hi, hr⟩
  have hv : cv = .bool true := by
    cases hr with
    | one hr => cases hr with
      | pure hr => cases hr with
        | flat hr => cases hr; rfl
  subst hv
  exact ⟨rfl, hgl.os, hgl.tape, hgl.output, hgl.size, fun k hk => (hgl.old k hk rfl (by simp [gOf])).2.2⟩
end Go.Proofs.YtiamjepnlnjlfaaDoor.Pi
namespace Go.Proofs.YtiamjepnlnjlfaaDoor.Pi
variable {α β : Type} {H : Heap} {k j : IntKind} {a b n m : Int} {x y : PV} {ek : EqK}
def resT (v : PV) (m : M PV) : M PV := bif isTup v then M.fail else m
def hget (H : Heap) (id : Nat) : Option Box := H[id]?
def hset (H : Heap) (id : Nat) (b : Box) : Heap := H.set id b
def hadd (H : Heap) (L : List Box) : Heap := H ++ L
def hcut (H : Heap) (n : Nat) : Heap := H.take n
abbrev hlen (H : Heap) : Nat := List.length H
def run (m : M α) (H : Heap) : Option (Out α) := m H
def bindR (r : Option (Out α)) (f : α → M β) : Option (Out β) :=
  match r with
  | none => none
  | some (.ok v H) => run (f v) H
  | some (.pan v H) => some (.pan v H)
def truncR (H : Heap) (r : Option (Out PV)) : Option (Out PV) :=
  match r with
  | none => none
  | some (.ok v H') => some (.ok v (bif v.low H.length then hcut H' H.length else H'))
  | some (.pan v H') => bif v.low H.length then some (.pan v (hcut H' H.length)) else none
noncomputable def nbR (H : Heap) (r : Option (Out α)) (f : α → M β) : Option (Out β) := nb (fun _ => r) f H
@[congr] theorem un0 {r r' : Option (Out α)} {f : α → M β} (h : r = r') : bindR r f = bindR r' f := by rw [h]
@[congr] theorem un6 {r r' : Option (Out α)} {f : α → M β} (h : r = r') : nbR H r f = nbR H r' f := by rw [h]
@[congr] theorem um5 {c c' : PV} {x y : M α} (h : c = c') : condM c x y = condM c' x y := by rw [h]
@[congr] theorem um1 {c c' : Bool} {x : M α} (h : c = c') : guardM c x = guardM c' x := by rw [h]
@[congr] theorem un1 {c c' : PV} {x : M PV} (h : c = c') : resT c x = resT c' x := by rw [h]
theorem run_bind {m : M α} {f : α → M β} : run (M.bind m f) H = bindR (run m H) f := nrfl rfl
theorem uex {f : α → M β} {v : α} {H : Heap} : bindR (some (.ok v H)) f = run (f v) H := nrfl rfl
theorem u99 {f : α → M β} : bindR none f = none := nrfl rfl
theorem ucz {f : α → M β} {v : PV} {H : Heap} : bindR (some (.pan v H)) f = some (.pan v H) := nrfl rfl
theorem ucx {c : Prop} [Decidable c] {r r' : Option (Out α)} {f : α → M β} : bindR (if c then r else r') f = if c then bindR r f else bindR r' f := by split <;> rfl
theorem run_nb {m : M α} {f : α → M β} : run (nb m f) H = nbR H (run m H) f := nrfl rfl
theorem nbR_ok {f : α → M β} {v : α} : nbR H (some (.ok v H)) f = run (f v) H := by simp [nbR, nb, run]
theorem uir {c : Prop} [Decidable c] {r r' : Option (Out α)} {f : α → M β} : nbR H (if c then r else r') f = if c then nbR H r f else nbR H r' f := by split <;> rfl
theorem u8y {m : M PV} : run (trunc m) H = truncR H (run m H) := nrfl rfl
theorem u9p {c : Prop} [Decidable c] {r r' : Option (Out PV)} : truncR H (if c then r else r') = if c then truncR H r else truncR H r' := by split <;> rfl
theorem u8b : truncR H none = none := nrfl rfl
theorem uct {v : PV} {H' : Heap} : truncR H (some (.ok v H')) = some (.ok v (if v.low H.length = true then hcut H' H.length else H')) := by
  show some (Out.ok v (bif v.low H.length then hcut H' H.length else H')) = _
  cases v.low H.length <;> rfl
theorem u62 {v : PV} {H' : Heap} : truncR H (some (.pan v H')) = if v.low H.length = true then some (.pan v (hcut H' H.length)) else none := by
  show (bif v.low H.length then some (Out.pan v (hcut H' H.length)) else none) = _
  cases v.low H.length <;> rfl
theorem ubk {c : Bool} {m : M α} : run (guardM c m) H = if c = true then run m H else none := by cases c <;> rfl
theorem uga {v : PV} {m : M PV} : run (resT v m) H = if isTup v = true then none else run m H := by unfold resT; cases isTup v <;> rfl
theorem ug6 {c : Bool} {x y : M α} : run (condM (.bool c) x y) H = if c = true then run x H else run y H := by cases c <;> rfl
theorem uk3 {c : Bool} {m : M PV} : run (gd (.bool c) true m) H = if c = true then run m H else some (.ok (.tup []) H) := by cases c <;> rfl
theorem uix {c : Bool} {m : M PV} : run (gd (.bool c) false m) H = if c = true then some (.ok (.tup []) H) else run m H := by cases c <;> rfl
theorem u9l : strip (.tup []) = .tup [] := nrfl rfl
theorem ukk {b : Bool} {m : M PV} : run (gd (.tup []) b m) H = some (.ok (.tup []) H) := nrfl rfl
theorem uge {c : Bool} : run (pick (.bool c) x y) H = if c = true then some (.ok (strip x) H) else some (.ok (strip y) H) := by cases c <;> rfl
theorem run_pure {v : α} : run (M.pure v) H = some (.ok v H) := nrfl rfl
theorem uiq {v : PV} : run (M.pan v : M α) H = some (.pan v H) := nrfl rfl
theorem ufc : run (M.fail : M α) H = none := nrfl rfl
theorem run_al {cs : List PV} : run (al cs) H = if cs.all isCell = true then some (.ok (.ptr H.length 0) (hadd H [.cells cs])) else none := by unfold run al; cases cs.all isCell <;> rfl
theorem run_bx {n : Nat} {v : PV} : run (bx n v) H = if (v.cells.map stripC).length = n ∧ lowL (H.length + 1) (v.cells.map stripC) = true ∧ v.cells.all isCell = true then some (.ok (.ptr H.length 0) (hadd H [.cells (v.cells.map stripC)])) else none := by
  unfold run bx
  cases h1 : ((v.cells.map stripC).length == n) <;> cases h2 : lowL (H.length + 1) (v.cells.map stripC) <;> cases h3 : v.cells.all isCell <;> simp_all [hadd]
theorem u52 (a b : Nat) : (a == b) = decide (a = b) := by rw [Bool.eq_iff_iff]; simp
def ldB (n : Option Nat) (mv : Bool) (id o : Nat) (H : Heap) : Option Box → Option (Out PV)
  | some (.cells cs) => match n with
      | none => match cs[o]? with
        | some v => bif mv then some (.ok v (hset H id (.cells (cs.set o (stripC v))))) else some (.ok (stripC v) H)
        | none => none
      | some n => bif decide (o + n ≤ cs.length) then some (.ok (.agg (((cs.drop o).take n).map stripC)) H) else none
  | _ => none
theorem run_ld {n : Option Nat} {mv : Bool} {id o : Nat} : run (ld n mv (.ptr id o)) H = ldB n mv id o H (hget H id) := by
  unfold run ld ldB
  rfl
def stB (n : Nat) (mv : Bool) (id o : Nat) (v : PV) (H : Heap) : Option Box → Option (Out PV)
  | some (.cells cs) => bif v.cells.length == n && (decide (o + n ≤ cs.length) && (lowL (id + 1) v.cells && v.cells.all isCell)) then
        some (.ok .undef (hset H id (.cells (fillAt o (bif mv then v.cells else v.cells.map stripC) cs))))
      else none
  | _ => none
theorem run_st {n : Nat} {mv : Bool} {id o : Nat} {v : PV} : run (st n mv (.ptr id o) v) H = stB n mv id o v H (hget H id) := by
  unfold run st stB
  rfl
theorem ugp {n : Nat} {mv : Bool} {id o : Nat} {cs : List PV} : ldB (some n) mv id o H (some (.cells cs)) = if o + n ≤ cs.length then some (.ok (.agg (((cs.drop o).take n).map stripC)) H) else none := by
  show (bif decide (o + n ≤ cs.length) then some (Out.ok (PV.agg (((cs.drop o).take n).map stripC)) H) else none) = _
  by_cases h : o + n ≤ cs.length <;> simp [h]
def nth : List α → Nat → Option α
  | [], _ => none
  | v :: _, 0 => some v
  | _ :: r, n + 1 => nth r n
theorem ufj {v : α} {r : List α} : nth (v :: r) 0 = some v := nrfl rfl
theorem ugc {v : α} {r : List α} {n : Nat} : nth (v :: r) (n + 1) = nth r n := nrfl rfl
theorem nth_is : ∀ (l : List α) (n : Nat), l[n]? = nth l n
  | [], _ => rfl
  | _ :: _, 0 => rfl
  | _ :: r, n + 1 => nth_is r n
def ldTR (H : Heap) (id : Nat) (cs : List PV) (o : Nat) : Option PV → Option (Out PV)
  | some v => some (.ok v (hset H id (.cells (cs.set o (stripC v)))))
  | none => none
def ldFR (H : Heap) : Option PV → Option (Out PV)
  | some v => some (.ok (stripC v) H)
  | none => none
theorem udi {id : Nat} {cs : List PV} {o : Nat} {v : PV} : ldTR H id cs o (some v) = some (.ok v (hset H id (.cells (cs.set o (stripC v))))) := nrfl rfl
theorem ud5 {v : PV} : ldFR H (some v) = some (.ok (stripC v) H) := nrfl rfl
theorem ldB_t {id o : Nat} {cs : List PV} : ldB none true id o H (some (.cells cs)) = ldTR H id cs o (nth cs o) := by
  rw [← nth_is]; rfl
theorem ldB_f {id o : Nat} {cs : List PV} : ldB none false id o H (some (.cells cs)) = ldFR H (nth cs o) := by
  rw [← nth_is]; rfl
theorem stB_is {n : Nat} {mv : Bool} {id o : Nat} {v : PV} {cs : List PV} :
    stB n mv id o v H (some (.cells cs)) = if v.cells.length = n ∧ o + n ≤ cs.length ∧ lowL (id + 1) v.cells = true ∧ v.cells.all isCell = true then some (.ok .undef (hset H id (.cells (fillAt o (if mv = true then v.cells else v.cells.map stripC) cs)))) else none := by
  show (bif v.cells.length == n && (decide (o + n ≤ cs.length) && (lowL (id + 1) v.cells && v.cells.all isCell)) then some (Out.ok PV.undef (hset H id (.cells (fillAt o (bif mv then v.cells else v.cells.map stripC) cs)))) else none) = _
  cases hb : v.cells.all isCell <;> cases hc : lowL (id + 1) v.cells <;> by_cases h1 : v.cells.length = n <;> by_cases h2 : o + n ≤ cs.length <;> cases mv <;> simp [h1, h2, u52 (v.cells.length) n]
theorem ug2 {mv : Bool} {cs : List PV} {c : PV} : run (ld none mv (.elem (c :: cs))) H = some (.ok c H) := nrfl rfl
theorem ufb {mv : Bool} {n : Nat} {cs : List PV} : run (ld (some n) mv (.elem cs)) H = if n ≤ cs.length then some (.ok (.agg (cs.take n)) H) else none := by
  show (bif decide (n ≤ cs.length) then M.pure (PV.agg (cs.take n)) else M.fail) H = _
  by_cases h : n ≤ cs.length <;> simp [h, M.pure, M.fail]
theorem uad {L : List Box} (k : Nat) : hget (hadd H L) (H.length + k) = nth L k := by unfold hget hadd; rw [List.getElem?_append_right (Nat.le_add_right _ _), Nat.add_sub_cancel_left, nth_is]
theorem uat {L : List Box} : hget (hadd H L) H.length = nth L 0 := uad 0
theorem ueg {L : List Box} {i : Nat} (h : i < H.length) : hget (hadd H L) i = hget H i := List.getElem?_append_left h
theorem uae {L : List Box} {x : Box} (k : Nat) : hset (hadd H L) (H.length + k) x = hadd H (L.set k x) := by unfold hset hadd; rw [List.set_append_right _ _ (Nat.le_add_right _ _), Nat.add_sub_cancel_left]
theorem ugq {L : List Box} {x : Box} : hset (hadd H L) H.length x = hadd H (L.set 0 x) := uae 0
theorem uel {L : List Box} {i : Nat} {x : Box} (h : i < H.length) : hset (hadd H L) i x = hadd (hset H i x) L := List.set_append_left _ _ h
theorem uer {i : Nat} {x : Box} (h : i < H.length) : hget (hset H i x) i = some x := by unfold hget hset; rw [List.getElem?_set_self h]
theorem set_set {i : Nat} {x y : Box} : hset (hset H i x) i y = hset H i y := List.set_set _
theorem u65 {L K : List Box} : hadd (hadd H L) K = hadd H (L ++ K) := List.append_assoc _ _ _
theorem uek {A L : List Box} {n : Nat} (h : n = A.length) : hcut (hadd A L) n = A := by subst h; simp [hcut, hadd]
theorem ues {A : List Box} {n : Nat} (h : n = A.length) : hcut A n = A := by subst h; simp [hcut]
theorem cut0 : hcut H H.length = H := ues rfl
theorem cut1 {i : Nat} {x : Box} : hcut (hset H i x) H.length = hset H i x := ues (by unfold hset; simp)
theorem cut2 {i j : Nat} {x y : Box} : hcut (hset (hset H i x) j y) H.length = hset (hset H i x) j y := ues (by unfold hset; simp)
theorem cutA0 {L : List Box} : hcut (hadd H L) H.length = H := uek rfl
theorem cutA1 {L : List Box} {i : Nat} {x : Box} : hcut (hadd (hset H i x) L) H.length = hset H i x := uek (by unfold hset; simp)
theorem cutA2 {L : List Box} {i j : Nat} {x y : Box} : hcut (hadd (hset (hset H i x) j y) L) H.length = hset (hset H i x) j y := uek (by unfold hset; simp)
theorem ue2 {L : List Box} : List.length (hadd H L) = H.length + L.length := List.length_append
theorem u5h {i : Nat} {x : Box} : List.length (hset H i x) = H.length := List.length_set
theorem u6t {L : List Box} {i : Nat} {y : Box} (k : Nat) : hget (hadd (hset H i y) L) (H.length + k) = nth L k := by
  have := uad (H := hset H i y) (L := L) k
  rwa [u5h] at this
theorem u7v {L : List Box} {i : Nat} {y : Box} : hget (hadd (hset H i y) L) H.length = nth L 0 := u6t 0
theorem u6q {L : List Box} {i : Nat} {x y : Box} (k : Nat) : hset (hadd (hset H i y) L) (H.length + k) x = hadd (hset H i y) (L.set k x) := by
  have := uae (H := hset H i y) (L := L) (x := x) k
  rwa [u5h] at this
theorem u7y {L : List Box} {i : Nat} {x y : Box} : hset (hadd (hset H i y) L) H.length x = hadd (hset H i y) (L.set 0 x) := u6q 0
theorem uam {L : List Box} {i j : Nat} {y : Box} (h : i < H.length) : hget (hadd (hset H j y) L) i = hget (hset H j y) i := ueg (by rw [u5h]; exact h)
theorem uar {L : List Box} {i j : Nat} {x y : Box} (h : i < H.length) : hset (hadd (hset H j y) L) i x = hadd (hset (hset H j y) i x) L := uel (by rw [u5h]; exact h)
theorem get_lt {i : Nat} {x : Box} (h : hget H i = some x) : i < H.length := (List.getElem?_eq_some_iff.mp h).1
theorem ulm {i : Nat} {x : Box} (h : hget H i = some x) : hset H i x = H := by
  obtain ⟨h1, h2⟩ := List.getElem?_eq_some_iff.mp h
  unfold hset; subst h2; exact List.set_getElem_self h1
theorem w_i64 (h : -9223372036854775808 ≤ n ∧ n ≤ 9223372036854775807) : IntKind.i64.wrap n = n := by rw [IntKind.wrap_i64]; omega
theorem w_u64 (h : 0 ≤ n ∧ n ≤ 18446744073709551615) : IntKind.u64.wrap n = n := by simp only [IntKind.wrap, IntKind.signed, IntKind.bits]; simp; omega
theorem w_u8 (h : 0 ≤ n ∧ n ≤ 255) : IntKind.u8.wrap n = n := by rw [IntKind.wrap_u8]; omega
theorem w_u32 (h : 0 ≤ n ∧ n ≤ 4294967295) : IntKind.u32.wrap n = n := by rw [IntKind.wrap_u32]; omega
theorem w_i32 (h : -2147483648 ≤ n ∧ n ≤ 2147483647) : IntKind.i32.wrap n = n := by rw [IntKind.wrap_i32]; omega
theorem u34 (h : 0 ≤ b) : bi .shl ek (.int k a) (.int j b) = M.pure (.int k (k.wrap (a * 2 ^ shiftN k b))) := by
  have : ¬ b < 0 := by omega
  simp [bi, this]
theorem u3s (h : 0 ≤ b) : bi .shr ek (.int k a) (.int j b) = M.pure (.int k (a.fdiv (2 ^ shiftN k b))) := by
  have : ¬ b < 0 := by omega
  simp [bi, this]
theorem uhm (h : b ≠ 0) : bi .quo ek (.int k a) (.int k b) = M.pure (.int k (k.wrap (a.tdiv b))) := by
  have h' : (b == 0) = false := by simpa using h
  cases k <;> simp [bi, intOp, h']
theorem ujc (h : b ≠ 0) : bi .rem ek (.int k a) (.int k b) = M.pure (.int k (a.tmod b)) := by
  have h' : (b == 0) = false := by simpa using h
  cases k <;> simp [bi, intOp, h']
theorem u36 : bi .and ek (.int k a) (.int k b) = M.pure (.int k (k.wrap (BitVec.ofInt k.bits a &&& BitVec.ofInt k.bits b).toNat)) := by cases k <;> rfl
theorem run_or : bi .or ek (.int k a) (.int k b) = M.pure (.int k (k.wrap (BitVec.ofInt k.bits a ||| BitVec.ofInt k.bits b).toNat)) := by cases k <;> rfl
def iaR (H : Heap) : Option PV → Option (Out PV)
  | some x => some (.ok (.elem x.cells) H)
  | none => none
theorem ugi {x : PV} : iaR H (some x) = some (.ok (.elem x.cells) H) := nrfl rfl
theorem udn {o z : Bool} {sz : Nat} {xs : List PV} (h0 : 0 ≤ n) : run (iaS sz (.slice o z sz xs) (.int k n)) H = iaR H xs[n.toNat]? := by
  unfold iaS iaR run
  have h' : decide (0 ≤ n) = true := by simpa using h0
  simp only [h', beq_self_eq_true, Bool.and_self, cond_true, u1h, M.fail, M.pure]
  split <;> rename_i h <;> simp only [h] <;> rfl
theorem run_fa {off id o : Nat} : fa off (.ptr id o) = M.pure (.ptr id (o + off)) := nrfl rfl
theorem uik {off : Nat} {cs : List PV} : fa off (.elem cs) = M.pure (.elem (cs.drop off)) := nrfl rfl
theorem ugb {P : Program} {C : CallT} {f : FuncId} {u v args : List PV} : callV P C (.fn f u v) args = C f (u ++ args ++ v) := nrfl rfl
theorem nc_ptr {P : Program} {i o : Nat} : nc P (.ptr i o) = M.pure (.ptr i o) := nrfl rfl
theorem ujs {P : Program} {cs : List PV} : nc P (.elem cs) = M.pure (.elem cs) := nrfl rfl
theorem nc_nil {P : Program} : nc P .nil = M.pan (nilDeref P) := nrfl rfl
theorem run_mi {t : TypeId} {v : PV} : run (mi t v) H = if isVal v = true then some (.ok (.iface t (stripC v)) H) else none := by
  unfold run mi
  cases isVal v <;> rfl
theorem run_pn {t : TypeId} {v : PV} : pn (.iface t v) = M.pan (.iface t v) := nrfl rfl
theorem ujr {o : Bool} : cv (.int k) o (.int j n) = M.pure (.int k (k.wrap n)) := nrfl rfl
theorem uhn {v : PV} {r : List PV} : ex 0 (.tup (v :: r)) = M.pure v := nrfl rfl
theorem uhx {u v : PV} {r : List PV} : ex 1 (.tup (u :: v :: r)) = M.pure v := nrfl rfl
theorem uhp {u v x : PV} {r : List PV} : ex 2 (.tup (u :: v :: x :: r)) = M.pure x := nrfl rfl
theorem uf1 {v : PV} {r : List PV} : tupDrop 0 (.tup (v :: r)) = .tup (stripC v :: r) := nrfl rfl
theorem ufy {u v : PV} {r : List PV} : tupDrop 1 (.tup (u :: v :: r)) = .tup (u :: stripC v :: r) := nrfl rfl
theorem ugs {u v x : PV} {r : List PV} : tupDrop 2 (.tup (u :: v :: x :: r)) = .tup (u :: v :: stripC x :: r) := nrfl rfl
section
variable {c d : Bool} {s : ByteArray} {i o : Nat} {cs ds : List PV} {N : Nat}
theorem ubj : isTup (.int k n) = false := nrfl rfl
theorem u9b : isCell (.int k n) = true := nrfl rfl
theorem ubr : isVal (.int k n) = true := nrfl rfl
theorem uco : isPtr (.int k n) = false := nrfl rfl
theorem ucd : PV.cells (.int k n) = [(.int k n)] := nrfl rfl
theorem u5w : PV.low N (.int k n) = true := by simp only [PV.low]
theorem u9z : isTup (.bool c) = false := nrfl rfl
theorem u7t : isCell (.bool c) = true := nrfl rfl
theorem u92 : isVal (.bool c) = true := nrfl rfl
theorem u9d : isPtr (.bool c) = false := nrfl rfl
theorem u91 : PV.cells (.bool c) = [(.bool c)] := nrfl rfl
theorem uav : PV.low N (.bool c) = true := by simp only [PV.low]
theorem ubd : isTup (.str s) = false := nrfl rfl
theorem u94 : isCell (.str s) = true := nrfl rfl
theorem uc8 : isVal (.str s) = true := nrfl rfl
theorem ub4 : isPtr (.str s) = false := nrfl rfl
theorem ud9 : PV.cells (.str s) = [(.str s)] := nrfl rfl
theorem ue8 : PV.low N (.str s) = true := by simp only [PV.low]
theorem ucu : isTup .nil = false := nrfl rfl
theorem u9m : isCell .nil = true := nrfl rfl
theorem ud7 : isVal .nil = true := nrfl rfl
theorem ube : isPtr .nil = false := nrfl rfl
theorem ubo : PV.cells .nil = [.nil] := nrfl rfl
theorem uj2 : PV.low N .nil = true := by simp only [PV.low]
theorem ucy : isTup (.ptr i o) = false := nrfl rfl
theorem u97 : isCell (.ptr i o) = true := nrfl rfl
theorem uby : isVal (.ptr i o) = true := nrfl rfl
theorem ubc : isPtr (.ptr i o) = true := nrfl rfl
theorem ucl : PV.cells (.ptr i o) = [(.ptr i o)] := nrfl rfl
theorem uij : PV.low N (.ptr i o) = decide (i < N) := by simp only [PV.low]
theorem u9u : isTup (.elem cs) = false := nrfl rfl
theorem u80 : isCell (.elem cs) = true := nrfl rfl
theorem u9y : isVal (.elem cs) = true := nrfl rfl
theorem u9x : isPtr (.elem cs) = false := nrfl rfl
theorem u9k : PV.cells (.elem cs) = [(.elem cs)] := nrfl rfl
theorem ufx : PV.low N (.elem cs) = true := by simp only [PV.low]
theorem u8v : isTup (.slice c d i cs) = false := nrfl rfl
theorem u6i : isCell (.slice c d i cs) = true := nrfl rfl
theorem u8a : isVal (.slice c d i cs) = true := nrfl rfl
theorem u8i : isPtr (.slice c d i cs) = false := nrfl rfl
theorem u8k : PV.cells (.slice c d i cs) = [(.slice c d i cs)] := nrfl rfl
theorem u7w : PV.low N (.slice c d i cs) = true := by simp only [PV.low]
theorem uf4 : isTup (.fn i cs ds) = false := nrfl rfl
theorem ucg : isCell (.fn i cs ds) = true := nrfl rfl
theorem ufh : isVal (.fn i cs ds) = true := nrfl rfl
theorem ufg : isPtr (.fn i cs ds) = false := nrfl rfl
theorem uf2 : PV.cells (.fn i cs ds) = [(.fn i cs ds)] := nrfl rfl
theorem low_fn : PV.low N (.fn i cs ds) = (lowL N cs && lowL N ds) := by simp only [PV.low]
theorem u8c : isTup .nilfn = false := nrfl rfl
theorem u68 : isCell .nilfn = true := nrfl rfl
theorem u8d : isVal .nilfn = true := nrfl rfl
theorem u86 : isPtr .nilfn = false := nrfl rfl
theorem u8h : PV.cells .nilfn = [.nilfn] := nrfl rfl
theorem ucf : PV.low N .nilfn = true := by simp only [PV.low]
theorem u7h : isTup (.iface i x) = false := nrfl rfl
theorem u69 : isCell (.iface i x) = true := nrfl rfl
theorem u8m : isVal (.iface i x) = true := nrfl rfl
theorem u78 : isPtr (.iface i x) = false := nrfl rfl
theorem u7z : PV.cells (.iface i x) = [(.iface i x)] := nrfl rfl
theorem u8u : PV.low N (.iface i x) = x.low N := by simp only [PV.low]
theorem u50 : isTup .niliface = false := nrfl rfl
theorem u4e : isCell .niliface = true := nrfl rfl
theorem u4z : isVal .niliface = true := nrfl rfl
theorem u55 : isPtr .niliface = false := nrfl rfl
theorem u53 : PV.cells .niliface = [.niliface] := nrfl rfl
theorem u6a : PV.low N .niliface = true := by simp only [PV.low]
theorem ucn : isTup (.agg cs) = false := nrfl rfl
theorem u95 : isCell (.agg cs) = false := nrfl rfl
theorem ubw : isVal (.agg cs) = true := nrfl rfl
theorem ubi : isPtr (.agg cs) = false := nrfl rfl
theorem ub5 : PV.cells (.agg cs) = cs := nrfl rfl
theorem uea : PV.low N (.agg cs) = lowL N cs := by simp only [PV.low]
theorem ucp : isTup (.tup cs) = true := nrfl rfl
theorem ua2 : isCell (.tup cs) = false := nrfl rfl
theorem ubt : isVal (.tup cs) = false := nrfl rfl
theorem ubl : isPtr (.tup cs) = false := nrfl rfl
theorem uc3 : PV.cells (.tup cs) = [(.tup cs)] := nrfl rfl
theorem u7e : PV.low N (.tup cs) = lowL N cs := by simp only [PV.low]
theorem u7s : isTup .undef = false := nrfl rfl
theorem u6g : isCell .undef = false := nrfl rfl
theorem u8e : isVal .undef = false := nrfl rfl
theorem u79 : isPtr .undef = false := nrfl rfl
theorem u85 : PV.cells .undef = [.undef] := nrfl rfl
theorem ud1 : PV.low N .undef = true := by simp only [PV.low]
end
theorem u4g {n : Nat} : lowL n [] = true := by simp only [lowL]
theorem u3m {n : Nat} {v : PV} {r : List PV} : lowL n (v :: r) = (v.low n && lowL n r) := by simp only [lowL]
def bdR (H : Heap) : Option (List PV) → Option (Out PV)
  | some cs => some (.ok (.agg cs) H)
  | none => none
theorem ugf {cs : List PV} : bdR H (some cs) = some (.ok (.agg cs) H) := nrfl rfl
theorem run_bd {zero : List PV} {parts : List (Nat × Nat × PV)} : run (bd zero parts) H = bdR H (u2i parts zero) := by
  unfold run bd bdR
  cases u2i parts zero <;> rfl
theorem u8n {cs : List PV} : u2i [] cs = some cs := nrfl rfl
theorem u67 {off size : Nat} {v : PV} {r : List (Nat × Nat × PV)} {cs : List PV} : u2i ((off, size, v) :: r) cs = if v.cells.length = size ∧ off + size ≤ cs.length ∧ v.cells.all isCell = true then u2i r (fillAt off (v.cells.map stripC) cs) else none := by
  show (bif v.cells.length == size && (decide (off + size ≤ cs.length) && v.cells.all isCell) then u2i r (fillAt off (v.cells.map stripC) cs) else none) = _
  cases hb : v.cells.all isCell <;> by_cases h1 : v.cells.length = size <;> by_cases h2 : off + size ≤ cs.length <;> simp [h1, h2, hb, u52 (v.cells.length) size]
theorem ubm {off : Nat} {vs cs : List PV} : fillAt off vs cs = cs.take off ++ vs ++ cs.drop (off + vs.length) := nrfl rfl
def bsR (own : Bool) (a : Option Nat) (vs : List PV) (H : Heap) : Option (Out PV) := if vs.all (u10 a) = true then some (.ok (.slice own false (a.getD 1) vs) H) else none
theorem run_bs {own : Bool} {a : Option Nat} {vs : List PV} : run (bs own a vs) H = bsR own a (vs.map stripC) H := by
  unfold run bs bsR
  cases ((vs.map stripC).all (u10 a)) <;> rfl
def noPanR : Option (Out PV) → Option (Out PV)
  | some (.ok v H) => some (.ok v H)
  | _ => none
theorem u77 {m : M PV} : run (noPan m) H = noPanR (run m H) := by
  unfold run noPan noPanR
  cases m H with
  | none => rfl
  | some q => cases q <;> rfl
theorem uc9 {v : PV} {H : Heap} : noPanR (some (.ok v H)) = some (.ok v H) := nrfl rfl
theorem ua1 {v : PV} {H : Heap} : noPanR (some (.pan v H)) = none := nrfl rfl
theorem u76 : noPanR none = none := nrfl rfl
theorem u9e {c : Prop} [Decidable c] {r r' : Option (Out PV)} : noPanR (if c then r else r') = if c then noPanR r else noPanR r' := by split <;> rfl
noncomputable def chkR (r r' : Option (Out α)) (x : M β) (H : Heap) : Option (Out β) := run (chk (fun _ => r) (fun _ => r') x) H
@[congr] theorem un4 {r r' s s' : Option (Out α)} {x : M β} (h : r = s) (h' : r' = s') : chkR r r' x H = chkR s s' x H := by rw [h, h']
theorem ujq {m m' : M α} {x : M β} : run (chk m m' x) H = chkR (run m H) (run m' H) x H := nrfl rfl
theorem ueb {a : α} {K : Heap} {x : M β} : chkR (some (.ok a K)) (some (.ok a K)) x H = run x H := by
  simp [chkR, run, chk]
theorem ujf {i o : Nat} : tld (.ptr i o) = .ld i := nrfl rfl
theorem ujy {i o : Nat} : tst (.ptr i o) = .st i := nrfl rfl
theorem ug0 {cs : List PV} : tld (.elem cs) = .no := nrfl rfl
theorem ugh {x : Touch} : clash .no x = false := nrfl rfl
theorem uc5 {y : Touch} : clash y .no = false := by cases y <;> rfl
theorem u88 {i j : Nat} : clash (.ld i) (.ld j) = false := nrfl rfl
theorem u8t {i j : Nat} : clash (.ld j) (.st i) = (i == j) := nrfl rfl
theorem u8o {i j : Nat} : clash (.st j) (.ld i) = (i == j) := nrfl rfl
theorem u8g {i j : Nat} : clash (.st j) (.st i) = (i == j) := nrfl rfl
theorem u6h {i : Nat} : clash .any (.ld i) = false := nrfl rfl
theorem u6j {i : Nat} : clash (.ld i) .any = false := nrfl rfl
theorem u5p : clash .any .any = false := nrfl rfl
def defR (CD : Option PV → CallT) (f : FuncId) (args : List PV) (res : M PV) : Option (Out PV) → Option (Out PV)
  | none => none
  | some (.ok _ H) => bindR (run (CD none f args) H) (fun _ => res)
  | some (.pan v H) => bindR (run (CD (some v) f args) H) (fun r => match r with | .tup [] => res | _ => M.fail)
theorem ucq {CD : Option PV → CallT} {f : FuncId} {u v args : List PV} {rest res : M PV} : run (deferM CD (.fn f u v) args rest res) H = defR CD f (u ++ args ++ v) res (run rest H) := by
  unfold run deferM defR
  dsimp only
  cases rest H with
  | none => rfl
  | some q => cases q <;> rfl
@[congr] theorem un2 {CD : Option PV → CallT} {f : FuncId} {args : List PV} {res : M PV} {r r' : Option (Out PV)} (h : r = r') : defR CD f args res r = defR CD f args res r' := by rw [h]
theorem udj {CD : Option PV → CallT} {f : FuncId} {args : List PV} {res : M PV} : defR CD f args res none = none := nrfl rfl
theorem uip {CD : Option PV → CallT} {f : FuncId} {args : List PV} {res : M PV} {v : PV} : defR CD f args res (some (.ok v H)) = bindR (run (CD none f args) H) (fun _ => res) := nrfl rfl
theorem ugg {CD : Option PV → CallT} {f : FuncId} {args : List PV} {res : M PV} {v : PV} : defR CD f args res (some (.pan v H)) = bindR (run (CD (some v) f args) H) (fun r => match r with | .tup [] => res | _ => M.fail) := nrfl rfl
theorem ufm {CD : Option PV → CallT} {f : FuncId} {args : List PV} {res : M PV} {c : Prop} [Decidable c] {r r' : Option (Out PV)} : defR CD f args res (if c then r else r') = if c then defR CD f args res r else defR CD f args res r' := by split <;> rfl
end Go.Proofs.YtiamjepnlnjlfaaDoor.Pi
namespace Go.Proofs.YtiamjepnlnjlfaaDoor.Pi
def byt (c : UInt8) : PV := .int .u8 c.toNat
abbrev bytes (b : List UInt8) : List PV := b.map byt
abbrev BS (z : Bool) (b : List UInt8) : PV := .slice false z 1 (bytes b)
theorem uen {b : List UInt8} {k : Nat} (h : k < b.length) : (bytes b)[k]? = some (byt b[k]) := by simp [bytes, h]
theorem byt_lt (c : UInt8) : c.toNat < 256 := c.toNat_lt
theorem um9 (n s x : Nat) (hn : n < 2 ^ s) : n ||| (x * 2 ^ s) = n + x * 2 ^ s := by
  rw [Nat.or_comm, Nat.mul_comm, ← Nat.two_pow_add_eq_or_of_lt hn, Nat.add_comm]
theorem bv_or {w a b : Nat} (ha : a < 2 ^ w) (hb : b < 2 ^ w) : (BitVec.ofInt w (a : Int) ||| BitVec.ofInt w (b : Int)).toNat = a ||| b := by
  rw [BitVec.toNat_or, BitVec.ofInt_natCast, BitVec.ofInt_natCast, BitVec.toNat_ofNat, BitVec.toNat_ofNat, Nat.mod_eq_of_lt ha, Nat.mod_eq_of_lt hb]
theorem bv_and {w a b : Nat} (ha : a < 2 ^ w) (hb : b < 2 ^ w) : (BitVec.ofInt w (a : Int) &&& BitVec.ofInt w (b : Int)).toNat = a &&& b := by
  rw [BitVec.toNat_and, BitVec.ofInt_natCast, BitVec.ofInt_natCast, BitVec.toNat_ofNat, BitVec.toNat_ofNat, Nat.mod_eq_of_lt ha, Nat.mod_eq_of_lt hb]
theorem and127 (a : Nat) (ha : a < 256) : IntKind.u8.wrap ((BitVec.ofInt IntKind.u8.bits (a : Int) &&& BitVec.ofInt IntKind.u8.bits 127).toNat : Int) = ((a % 128 : Nat) : Int) := by
  have e : (127 : Int) = ((127 : Nat) : Int) := rfl
  have h := bv_and (w := 8) (a := a) (b := 127) ha (by decide)
  rw [show IntKind.u8.bits = 8 from rfl, e, h, Nat.and_two_pow_sub_one_eq_mod a 7]
  exact w_u8 (by omega)
theorem u5v {s : Nat} (h : s ≤ 64) : shiftN .u64 (s : Int) = s := by unfold shiftN; rw [Int.toNat_natCast]; exact Nat.min_eq_left h
theorem u9i {s : Nat} (h : s ≤ 64) : shiftN .i64 (s : Int) = s := by unfold shiftN; rw [Int.toNat_natCast]; exact Nat.min_eq_left h
theorem ui1 {s : Nat} (h : s ≤ 8) : shiftN .u8 (s : Int) = s := by unfold shiftN; rw [Int.toNat_natCast]; exact Nat.min_eq_left h
theorem shr_u8 (c : Nat) {s : Nat} (h : s ≤ 8) : (c : Int).fdiv (2 ^ shiftN .u8 (s : Int)) = ((c / 2 ^ s : Nat) : Int) := by
  rw [ui1 h, Int.fdiv_eq_ediv_of_nonneg _ (Int.le_of_lt (Int.pow_pos (by omega)))]
  simp
theorem uaj {n x s : Nat} (hs : s ≤ 63) (hn : n < 2 ^ s) (hx : x * 2 ^ s < 2 ^ 64) :
    IntKind.u64.wrap ((BitVec.ofInt IntKind.u64.bits (n : Int) ||| BitVec.ofInt IntKind.u64.bits (IntKind.u64.wrap ((x : Int) * 2 ^ shiftN .u64 (s : Int)))).toNat : Int) = ((n + x * 2 ^ s : Nat) : Int) ∧ n + x * 2 ^ s < 2 ^ 64 := by
  have e1 : ((x : Int) * 2 ^ shiftN .u64 (s : Int)) = ((x * 2 ^ s : Nat) : Int) := by rw [u5v (by omega)]; simp
  have hle : 2 ^ s ≤ 2 ^ 63 := Nat.pow_le_pow_right (by omega) hs
  have hlt : n + x * 2 ^ s < 2 ^ 64 := by
    have e : (2 : Nat) ^ 64 = 2 ^ (64 - s) * 2 ^ s := by rw [← Nat.pow_add, Nat.sub_add_cancel (by omega)]
    rw [e] at hx ⊢
    have hx2 : x < 2 ^ (64 - s) := Nat.lt_of_mul_lt_mul_right hx
    have : (x + 1) * 2 ^ s ≤ 2 ^ (64 - s) * 2 ^ s := Nat.mul_le_mul_right _ hx2
    rw [Nat.add_mul] at this
    omega
  refine ⟨?_, hlt⟩
  rw [e1, w_u64 (n := ((x * 2 ^ s : Nat) : Int)) (by omega), show IntKind.u64.bits = 64 from rfl, bv_or (w := 64) (by omega) hx, um9 n s x hn]
  exact w_u64 (by omega)
inductive Rs (α : Type) where
  | ok (v : α) (p : Nat)
  | err (p e : Nat)
def lebU (b : List UInt8) (B e : Nat) : Nat → Nat → Nat → Nat → Rs Nat
  | 0, _, _, p => .err p 4
  | f + 1, i, n, p =>
    if p < e then
      let c := (b.getD p 0).toNat
      if B < 7 * i + 7 ∧ c / 2 ^ (B - 7 * i) ≠ 0 then .err p 4
      else if c < 128 then .ok (n + c * 2 ^ (7 * i)) (p + 1)
      else lebU b B e f (i + 1) (n + c % 128 * 2 ^ (7 * i)) (p + 1)
    else .err e 3
end Go.Proofs.YtiamjepnlnjlfaaDoor.Pi
namespace Go.Proofs.YtiamjepnlnjlfaaDoor.Pi
theorem pow64 {s : Nat} (h : s ≤ 64) : (18446744073709551616 : Int) = 2 ^ (64 - s) * 2 ^ s := by
  rw [← Int.pow_add, Nat.sub_add_cancel h]; rfl
def okS (h c : Nat) : Prop := c < 128 ∧ (c / 2 ^ (h - 1) = 0 ∨ c / 2 ^ (h - 1) = 2 ^ (8 - h) - 1)
instance (h c : Nat) : Decidable (okS h c) := by unfold okS; infer_instance
def lastS (c s : Nat) : Int := (if c < 64 then (c : Int) else (c : Int) - 128) * 2 ^ s
end Go.Proofs.YtiamjepnlnjlfaaDoor.Pi
namespace Go.Proofs.YtiamjepnlnjlfaaDoor.Pi
open Go.ChangeShapes Go.WideShapes
def imOf (w : World) (b o : Nat) : Option Value := w.cell? ⟨b, o, none⟩
theorem imOf_ok (w : World) : ∀ b o v, imOf w b o = some v → w.cell? ⟨b, o, none⟩ = some v := fun _ _ _ h => h
def u4d (zs : List Int) : List UInt8 := zs.map fun n => UInt8.ofNat n.toNat
theorem wf_u8 {n : Int} (h : (Lit.int .u8 n).wf = true) : 0 ≤ n ∧ n < 256 := by
  simp [Lit.wf, IntKind.min, IntKind.max, IntKind.bits, IntKind.signed] at h
  omega
theorem ukc {P : Program} {w : World} {base : Nat} {t e : TypeId} {a : Addr} {len cap : Nat} (ht : P.underlying t = some (.slice e)) (h : Value.okWide P w .any base t (.slice (some a) len cap)) : a.spot = none := by
  unfold Value.okWide at h
  simp only [ht] at h
  unfold Cell.okWide at h
  simp only [ht] at h
  unfold Cell.ok at h
  simp only [ht] at h
  exact h.2.2.2.1
theorem open_bytes {H : Type} {enc : TypeId × Value → H} {P : Program} {W : World} {base : Nat} {spare : Nat → Bool} {held : Bool} {t e : TypeId} {v : Value} {d : DataW H} {ps : List MemPlace} {ts : List TypeId} {ds : List (DataW H)} {j : Nat}
    (hsz : (DataW.weightsEach P ts ds).all (· ≤ reachBytes) = true) (htj : ts[j]? = some t) (hd : ds[j]? = some d) (hu : P.underlying t = some (.slice e)) (he : P.underlying e = some (.int .u8)) (hc : P.cellsOf e = 1) (hB : P.bytesOf e = 1)
    (hok : Value.okWide P W .any base t v) {b0 : Nat} (h : DataW.Trod enc P W b0 spare held t v d ps) :
    ∃ z b, b.length ≤ 140737488351232 ∧ Rep [] (imOf W) (BS z b) v ∧ ∀ x ∈ ps, x.block < W.heap.size := by
  obtain ⟨a, len, cap, rfl⟩ := okWide_slice hu hok
  have k := h
  have lt : ∀ x ∈ ps, x.block < W.heap.size := by obtain ⟨m, hm⟩ := k; exact DataW.trod_lt m _ _ _ hm
  obtain ⟨fuel, hf⟩ := h
  rcases open_ints hu he hc hf with ⟨hcs, _⟩ | ⟨x, l, c, zs, hcs, _, hl, hm, hz, hx, hcell, hwz⟩
  · simp [Value.cells] at hcs
    obtain ⟨rfl, rfl, rfl⟩ := hcs
    exact ⟨true, [], by simp, .flat (.snil 1), lt⟩
  · simp [Value.cells] at hcs
    obtain ⟨rfl, rfl, rfl⟩ := hcs
    have hsp := ukc hu hok
    obtain ⟨g, o, sp⟩ := x
    obtain rfl : sp = none := hsp
    have hlz : len ≤ zs.length := by rw [hz]; split <;> omega
    refine ⟨false, u4d (zs.take len), ?_, ?_, lt⟩
    · obtain ⟨hx, _⟩ := Prod.mk.inj hx
      subst hx
      have z := sized_slice hsz htj hd hu
      rw [hB] at z
      have h1 : (lits (H := H) .u8 (zs.take len)).length + (lits (H := H) .u8 (zs.drop len)).length = zs.length := by
        simp [lits]
        omega
      rw [h1] at z
      simp only [u4d, List.length_map, List.length_take]
      have : reachBytes = 140737488351232 := rfl
      omega
    · have hln : (bytes (u4d (zs.take len))).length = len := by simp [bytes, u4d, hlz]
      have hget : ∀ (i : Nat) (x : PV), (bytes (u4d (zs.take len)))[i]? = some x → i < len ∧ x = .int .u8 (zs.getD i 0) := by
        intro i x hx
        have hi : i < len := by
          have := (List.getElem?_eq_some_iff.mp hx).1
          omega
        refine ⟨hi, ?_⟩
        have hiz : i < zs.length := by omega
        have e1 : (bytes (u4d (zs.take len)))[i]? = some (byt (UInt8.ofNat (zs[i]).toNat)) := by
          simp [bytes, u4d, hi, hiz]
        rw [e1] at hx
        obtain rfl := Option.some.inj hx
        have hw := wf_u8 (hwz _ (List.getElem_mem hiz))
        have e2 : zs.getD i 0 = zs[i] := by simp [List.getD, hiz]
        rw [e2]
        unfold byt
        congr 1
        have : (UInt8.ofNat (zs[i]).toNat).toNat = (zs[i]).toNat := by
          rw [UInt8.toNat_ofNat']
          omega
        rw [this]
        omega
      have hadd : ∀ i : Nat, i < len → W.cell? ⟨g, o + i, none⟩ = some (.int .u8 (zs.getD i 0)) := by
        intro i hi
        have := hcell i (by omega)
        unfold Addr.add at this
        split at this
        · rename_i h0
          subst h0
          simpa using this
        · exact this
      have hrep := RepF.slice (im := imOf W) (g := g) (o := o) (cap := cap) (sz := 1) (xs := bytes (u4d (zs.take len))) (fun i _ => .int .u8 (zs.getD i 0)) (.inl rfl) (by omega)
        (fun i x hx => by rw [(hget i x hx).2]; rfl)
        (fun i x j c hx hc => by
          obtain ⟨hi, rfl⟩ := hget i x hx
          have hj : j = 0 := by
            have := (List.getElem?_eq_some_iff.mp hc).1
            simp [PV.cells] at this
            omega
          subst hj
          unfold imOf
          simpa using hadd i hi)
        (fun i x j c hx hc => by
          obtain ⟨hi, rfl⟩ := hget i x hx
          have hj : j = 0 := by
            have := (List.getElem?_eq_some_iff.mp hc).1
            simp [PV.cells] at this
            omega
          subst hj
          simp [PV.cells] at hc
          subst hc
          exact .int _ _)
      rw [hln] at hrep
      exact .flat hrep
end Go.Proofs.YtiamjepnlnjlfaaDoor.Pi
namespace Go.Proofs.YtiamjepnlnjlfaaDoor.Pi
theorem goDown : type_of% (And.intro (And.intro (And.intro (And.intro (And.intro @run_bind @uex) (And.intro @u99 @ucz)) (And.intro (And.intro @ucx
    @run_nb) (And.intro @nbR_ok @uir))) (And.intro (And.intro (And.intro @u8y @u9p) (And.intro @u8b @uct)) (And.intro
    (And.intro @u62 @ubk) (And.intro @uga (And.intro @ug6 @uk3))))) (And.intro (And.intro (And.intro (And.intro @uix
    @ukk) (And.intro @run_pure @uiq)) (And.intro (And.intro @ufc @u77) (And.intro @uc9 @ua1))) (And.intro (And.intro
    (And.intro @u76 @u9e) (And.intro @ujq @ueb)) (And.intro (And.intro @ucq @udj) (And.intro @uip (And.intro
    @ugg @ufm)))))) := (And.intro (And.intro (And.intro (And.intro (And.intro @run_bind @uex) (And.intro @u99 @ucz)) (And.intro (And.intro @ucx
    @run_nb) (And.intro @nbR_ok @uir))) (And.intro (And.intro (And.intro @u8y @u9p) (And.intro @u8b @uct)) (And.intro
    (And.intro @u62 @ubk) (And.intro @uga (And.intro @ug6 @uk3))))) (And.intro (And.intro (And.intro (And.intro @uix
    @ukk) (And.intro @run_pure @uiq)) (And.intro (And.intro @ufc @u77) (And.intro @uc9 @ua1))) (And.intro (And.intro
    (And.intro @u76 @u9e) (And.intro @ujq @ueb)) (And.intro (And.intro @ucq @udj) (And.intro @uip (And.intro
    @ugg @ufm))))))
theorem goUp : type_of% (And.intro (And.intro (And.intro (And.intro (And.intro (And.intro (And.intro @u9l (And.intro @uge @run_al)) (And.intro (And.intro @run_bx
    @run_ld) (And.intro @run_st @ugp))) (And.intro (And.intro (And.intro @ufj @ugc) (And.intro @udi @ud5)) (And.intro
    (And.intro @ldB_t @ldB_f) (And.intro @stB_is @ug2)))) (And.intro (And.intro (And.intro @ufb (And.intro @uad @uat)) (And.intro
    (And.intro @ueg @uae) (And.intro @ugq @uel))) (And.intro (And.intro (And.intro @uer @set_set) (And.intro @u65 @cut0))
    (And.intro (And.intro @cut1 @cut2) (And.intro @cutA0 @cutA1))))) (And.intro (And.intro (And.intro (And.intro @cutA2 (And.intro @ue2 @u5h))
    (And.intro (And.intro @w_i64 @w_u64) (And.intro @w_u8 @w_u32))) (And.intro (And.intro (And.intro @w_i32 @uhm) (And.intro @ujc @ugi))
    (And.intro (And.intro @udn @run_fa) (And.intro @uik @ugb)))) (And.intro (And.intro (And.intro @nc_ptr (And.intro @ujs @nc_nil))
    (And.intro (And.intro @run_mi @run_pn) (And.intro @ujr @uhn))) (And.intro (And.intro (And.intro @uhx @uhp) (And.intro @uf1
    @ufy)) (And.intro (And.intro @ugs @ubj) (And.intro @u9b @ubr)))))) (And.intro (And.intro (And.intro (And.intro
    (And.intro @uco (And.intro @ucd @u5w)) (And.intro (And.intro @u9z @u7t) (And.intro @u92 @u9d)))
    (And.intro (And.intro (And.intro @u91 @uav) (And.intro @ubd @u94)) (And.intro (And.intro @uc8 @ub4) (And.intro
    @ud9 @ue8)))) (And.intro (And.intro (And.intro @ucu (And.intro @u9m @ud7)) (And.intro (And.intro @ube
    @ubo) (And.intro @uj2 @ucy))) (And.intro (And.intro (And.intro @u97 @uby) (And.intro @ubc @ucl))
    (And.intro (And.intro @uij @u9u) (And.intro @u80 @u9y))))) (And.intro (And.intro (And.intro (And.intro @u9x
    (And.intro @u9k @ufx)) (And.intro (And.intro @u8v @u6i) (And.intro @u8a @u8i))) (And.intro (And.intro
    (And.intro @u8k @u7w) (And.intro @uf4 @ucg)) (And.intro (And.intro @ufh @ufg) (And.intro @uf2 @low_fn))))
    (And.intro (And.intro (And.intro @u8c (And.intro @u68 @u8d)) (And.intro (And.intro @u86 @u8h) (And.intro
    @ucf @u7h))) (And.intro (And.intro (And.intro @u69 @u8m) (And.intro @u78 @u7z)) (And.intro
    (And.intro @u8u @u50) (And.intro @u4e @u4z))))))) (And.intro (And.intro (And.intro (And.intro (And.intro
    (And.intro @u55 (And.intro @u53 @u6a)) (And.intro (And.intro @ucn @u95) (And.intro @ubw
    @ubi))) (And.intro (And.intro (And.intro @ub5 @uea) (And.intro @ucp @ua2)) (And.intro (And.intro @ubt
    @ubl) (And.intro @uc3 @u7e)))) (And.intro (And.intro (And.intro @u7s (And.intro @u6g @u8e)) (And.intro
    (And.intro @u79 @u85) (And.intro @ud1 @u4g))) (And.intro (And.intro (And.intro @u3m @ugf) (And.intro @run_bd
    @u8n)) (And.intro (And.intro @u67 @ubm) (And.intro @run_bs @ujf))))) (And.intro (And.intro (And.intro (And.intro
    @ujy (And.intro @ug0 @ugh)) (And.intro (And.intro @uc5 @u88) (And.intro @u8t @u8o))) (And.intro
    (And.intro (And.intro @u8g @u6h) (And.intro @u6j @u5p)) (And.intro (And.intro @uci @u9n)
    (And.intro @uc0 @u8q)))) (And.intro (And.intro (And.intro @ubz (And.intro @ucj @u9c)) (And.intro (And.intro
    @ub8 @u51) (And.intro @u84 @ug8))) (And.intro (And.intro (And.intro @u7g @ud3) (And.intro @ua0
    @u87)) (And.intro (And.intro @u9r @u66) (And.intro @ua3 @u9a)))))) (And.intro (And.intro (And.intro
    (And.intro (And.intro @u9g (And.intro @u41 @u6l)) (And.intro (And.intro @uc1 @bi_add) (And.intro @bi_sub
    @bi_mul))) (And.intro (And.intro (And.intro @bi_eql @bi_neq) (And.intro @bi_lss @bi_leq)) (And.intro (And.intro @bi_gtr @bi_geq) (And.intro
    @uji @ukf)))) (And.intro (And.intro (And.intro @uhz (And.intro @uj3 @un_not)) (And.intro (And.intro @udg @uk9) (And.intro
    @mx_int @mn_int))) (And.intro (And.intro (And.intro @cv_int @Bool.and_true) (And.intro @Bool.true_and @Bool.and_self)) (And.intro (And.intro
    @Bool.not_true @Bool.not_false) (And.intro @Bool.and_false @Bool.false_and))))) (And.intro (And.intro (And.intro (And.intro @Bool.or_true
    (And.intro @Bool.or_false @Bool.true_or)) (And.intro (And.intro @Bool.false_or @Bool.false_eq_true) (And.intro @decide_eq_true_eq @and_self)))
    (And.intro (And.intro (And.intro @and_true @true_and) (And.intro @not_true_eq_false @not_false_eq_true)) (And.intro (And.intro @Nat.zero_add
    @Nat.add_zero) (And.intro @Nat.le_refl @Nat.lt_add_one)))) (And.intro (And.intro (And.intro (And.intro @Nat.lt_irrefl @and_false) (And.intro
    @false_and @Bool.not_eq_true')) (And.intro (And.intro @Bool.not_eq_eq_eq_not @decide_eq_false_iff_not) (And.intro @Bool.and_eq_true
    @Bool.or_eq_true))) (And.intro (And.intro (And.intro @decide_true @decide_false) (And.intro @u6t @u7v)) (And.intro (And.intro @u6q
    @u7y) (And.intro @uam @uar)))))))) := (And.intro (And.intro (And.intro (And.intro (And.intro (And.intro (And.intro @u9l (And.intro @uge @run_al)) (And.intro (And.intro @run_bx
    @run_ld) (And.intro @run_st @ugp))) (And.intro (And.intro (And.intro @ufj @ugc) (And.intro @udi @ud5)) (And.intro
    (And.intro @ldB_t @ldB_f) (And.intro @stB_is @ug2)))) (And.intro (And.intro (And.intro @ufb (And.intro @uad @uat)) (And.intro
    (And.intro @ueg @uae) (And.intro @ugq @uel))) (And.intro (And.intro (And.intro @uer @set_set) (And.intro @u65 @cut0))
    (And.intro (And.intro @cut1 @cut2) (And.intro @cutA0 @cutA1))))) (And.intro (And.intro (And.intro (And.intro @cutA2 (And.intro @ue2 @u5h))
    (And.intro (And.intro @w_i64 @w_u64) (And.intro @w_u8 @w_u32))) (And.intro (And.intro (And.intro @w_i32 @uhm) (And.intro @ujc @ugi))
    (And.intro (And.intro @udn @run_fa) (And.intro @uik @ugb)))) (And.intro (And.intro (And.intro @nc_ptr (And.intro @ujs @nc_nil))
    (And.intro (And.intro @run_mi @run_pn) (And.intro @ujr @uhn))) (And.intro (And.intro (And.intro @uhx @uhp) (And.intro @uf1
    @ufy)) (And.intro (And.intro @ugs @ubj) (And.intro @u9b @ubr)))))) (And.intro (And.intro (And.intro (And.intro
    (And.intro @uco (And.intro @ucd @u5w)) (And.intro (And.intro @u9z @u7t) (And.intro @u92 @u9d)))
    (And.intro (And.intro (And.intro @u91 @uav) (And.intro @ubd @u94)) (And.intro (And.intro @uc8 @ub4) (And.intro
    @ud9 @ue8)))) (And.intro (And.intro (And.intro @ucu (And.intro @u9m @ud7)) (And.intro (And.intro @ube
    @ubo) (And.intro @uj2 @ucy))) (And.intro (And.intro (And.intro @u97 @uby) (And.intro @ubc @ucl))
    (And.intro (And.intro @uij @u9u) (And.intro @u80 @u9y))))) (And.intro (And.intro (And.intro (And.intro @u9x
    (And.intro @u9k @ufx)) (And.intro (And.intro @u8v @u6i) (And.intro @u8a @u8i))) (And.intro (And.intro
    (And.intro @u8k @u7w) (And.intro @uf4 @ucg)) (And.intro (And.intro @ufh @ufg) (And.intro @uf2 @low_fn))))
    (And.intro (And.intro (And.intro @u8c (And.intro @u68 @u8d)) (And.intro (And.intro @u86 @u8h) (And.intro
    @ucf @u7h))) (And.intro (And.intro (And.intro @u69 @u8m) (And.intro @u78 @u7z)) (And.intro
    (And.intro @u8u @u50) (And.intro @u4e @u4z))))))) (And.intro (And.intro (And.intro (And.intro (And.intro
    (And.intro @u55 (And.intro @u53 @u6a)) (And.intro (And.intro @ucn @u95) (And.intro @ubw
    @ubi))) (And.intro (And.intro (And.intro @ub5 @uea) (And.intro @ucp @ua2)) (And.intro (And.intro @ubt
    @ubl) (And.intro @uc3 @u7e)))) (And.intro (And.intro (And.intro @u7s (And.intro @u6g @u8e)) (And.intro
    (And.intro @u79 @u85) (And.intro @ud1 @u4g))) (And.intro (And.intro (And.intro @u3m @ugf) (And.intro @run_bd
    @u8n)) (And.intro (And.intro @u67 @ubm) (And.intro @run_bs @ujf))))) (And.intro (And.intro (And.intro (And.intro
    @ujy (And.intro @ug0 @ugh)) (And.intro (And.intro @uc5 @u88) (And.intro @u8t @u8o))) (And.intro
    (And.intro (And.intro @u8g @u6h) (And.intro @u6j @u5p)) (And.intro (And.intro @uci @u9n)
    (And.intro @uc0 @u8q)))) (And.intro (And.intro (And.intro @ubz (And.intro @ucj @u9c)) (And.intro (And.intro
    @ub8 @u51) (And.intro @u84 @ug8))) (And.intro (And.intro (And.intro @u7g @ud3) (And.intro @ua0
    @u87)) (And.intro (And.intro @u9r @u66) (And.intro @ua3 @u9a)))))) (And.intro (And.intro (And.intro
    (And.intro (And.intro @u9g (And.intro @u41 @u6l)) (And.intro (And.intro @uc1 @bi_add) (And.intro @bi_sub
    @bi_mul))) (And.intro (And.intro (And.intro @bi_eql @bi_neq) (And.intro @bi_lss @bi_leq)) (And.intro (And.intro @bi_gtr @bi_geq) (And.intro
    @uji @ukf)))) (And.intro (And.intro (And.intro @uhz (And.intro @uj3 @un_not)) (And.intro (And.intro @udg @uk9) (And.intro
    @mx_int @mn_int))) (And.intro (And.intro (And.intro @cv_int @Bool.and_true) (And.intro @Bool.true_and @Bool.and_self)) (And.intro (And.intro
    @Bool.not_true @Bool.not_false) (And.intro @Bool.and_false @Bool.false_and))))) (And.intro (And.intro (And.intro (And.intro @Bool.or_true
    (And.intro @Bool.or_false @Bool.true_or)) (And.intro (And.intro @Bool.false_or @Bool.false_eq_true) (And.intro @decide_eq_true_eq @and_self)))
    (And.intro (And.intro (And.intro @and_true @true_and) (And.intro @not_true_eq_false @not_false_eq_true)) (And.intro (And.intro @Nat.zero_add
    @Nat.add_zero) (And.intro @Nat.le_refl @Nat.lt_add_one)))) (And.intro (And.intro (And.intro (And.intro @Nat.lt_irrefl @and_false) (And.intro
    @false_and @Bool.not_eq_true')) (And.intro (And.intro @Bool.not_eq_eq_eq_not @decide_eq_false_iff_not) (And.intro @Bool.and_eq_true
    @Bool.or_eq_true))) (And.intro (And.intro (And.intro @decide_true @decide_false) (And.intro @u6t @u7v)) (And.intro (And.intro @u6q
    @u7y) (And.intro @uam @uar))))))))
theorem cr : (∀ {α : Type} {a : α} {l : List α}, (a :: l).length = l.length + 1) ∧ (∀ {α : Type}, ([] : List α).length = 0) ∧ (∀ {α β : Type} {f : α → β} {a : α} {l : List α}, (a :: l).map f = f a :: l.map f) ∧ (∀ {α β : Type} {f : α → β}, [].map f = []) ∧ (∀ {α : Type} {a : α} {l : List α} {i : Nat}, (a :: l).take (i + 1) = a :: l.take i) ∧ (∀ {α : Type} {l : List α}, l.take 0 = []) ∧ (∀ {α : Type} {a : α} {l : List α} {i : Nat}, (a :: l).drop (i + 1) = l.drop i) ∧ (∀ {α : Type} {l : List α}, l.drop 0 = l) ∧ (∀ {α : Type} {i : Nat}, ([] : List α).drop i = []) ∧ (∀ {α : Type} {i : Nat}, ([] : List α).take i = []) ∧ (∀ {α : Type} {a : α} {l k : List α}, a :: l ++ k = a :: (l ++ k)) ∧ (∀ {α : Type} {l : List α}, [] ++ l = l) ∧ (∀ {α : Type} {l : List α}, l ++ [] = l) ∧ (∀ {α : Type} {a b : α} {l : List α}, (a :: l).set 0 b = b :: l) ∧ (∀ {α : Type} {a b : α} {l : List α} {i : Nat}, (a :: l).set (i + 1) b = a :: l.set i b) ∧ (∀ {α : Type} {f : α → Bool} {a : α} {l : List α}, (a :: l).all f = (f a && l.all f)) ∧ (∀ {α : Type} {f : α → Bool}, [].all f = true) ∧ (∀ {a b : Int}, a ≥ b ↔ b ≤ a) ∧ (∀ {a b : Nat}, a ≥ b ↔ b ≤ a) ∧ (∀ {a b : Int}, a > b ↔ b < a) ∧ (∀ {a b : Nat}, a > b ↔ b < a) ∧ (∀ {α : Type} [BEq α] [ReflBEq α] {a : α}, (a == a) = true) ∧ (∀ {α : Type} [BEq α] [LawfulBEq α] {a b : α}, (a == b) = true ↔ a = b) ∧ (∀ {α : Type} [BEq α] [LawfulBEq α] {a b : α}, (a != b) = true ↔ a ≠ b) ∧ (∀ {α : Type} {a b : α}, (a ≠ b) = ¬ a = b) ∧ (∀ {α : Type} {p : Prop} [Decidable p] {x y : α}, (if ¬ p then x else y) = if p then y else x) ∧ (∀ {α : Type} {p : Prop} [Decidable p] {x : α}, (if p then x else x) = x) ∧ (∀ {α : Type} {a b : α}, (some a).getD b = a) ∧ (∀ {α : Type} {b : α}, (none : Option α).getD b = b) :=
  ⟨List.length_cons, List.length_nil, List.map_cons, List.map_nil, List.take_succ_cons, List.take_zero, List.drop_succ_cons, List.drop_zero, List.drop_nil, List.take_nil, List.cons_append, (List.nil_append _), (List.append_nil _), List.set_cons_zero, List.set_cons_succ, List.all_cons, List.all_nil, Iff.rfl, Iff.rfl, Iff.rfl, Iff.rfl, (beq_self_eq_true _), beq_iff_eq, bne_iff_ne, (ne_eq _ _), (ite_not _ _ _), (ite_self _), Option.getD_some, Option.getD_none⟩
end Go.Proofs.YtiamjepnlnjlfaaDoor.Pi
namespace Go.Proofs.YtiamjepnlnjlfaaDoor.Pi
variable {α β σ : Type} {c : Nat} {H : Heap}
def St (H : Heap) (c : Nat) (bx : Box) (L : List Box) : Heap := hadd (hset H c bx) L
def killR (c : Nat) : Option (Out α) → Option (Out α)
  | some (.pan v H) => some (.pan v (hset H c .dead))
  | r => r
def runK (c : Nat) (m : M α) (H : Heap) : Option (Out α) := killR c (run m H)
def bindK (c : Nat) (r : Option (Out α)) (f : α → M β) : Option (Out β) :=
  match r with
  | none => none
  | some (.ok v H) => runK c (f v) H
  | some (.pan v H) => some (.pan v H)
inductive Res (σ α : Type) where
  | ok (v : α) (s : σ)
  | err (t : TypeId) (l : List Int)
  | no
def fltP (t : TypeId) (l : List Int) : PV := .iface t (.agg (l.map (PV.int .i64)))
theorem uhu {t : TypeId} {l : List Int} : fltP t l = .iface t (.agg (l.map (PV.int .i64))) := nrfl rfl
theorem ucw {n : Nat} : ∀ l : List Int, lowL n (l.map (PV.int .i64)) = true
  | [] => u4g
  | a :: r => by rw [List.map_cons, u3m, u5w, ucw r]; rfl
theorem uaw {t : TypeId} {l : List Int} {n : Nat} : (fltP t l).low n = true := by
  unfold fltP
  rw [u8u, uea]
  exact ucw l
def Res.bind {σ τ α β : Type} (r : Res σ α) (g : α → σ → Res τ β) : Res τ β :=
  match r with
  | .ok v s => g v s
  | .err t l => .err t l
  | .no => .no
def elimK {σ α γ : Type} (c : Nat) (H : Heap) (L : List Box) (r : Res σ α) (g : α → σ → Option (Out γ)) : Option (Out γ) :=
  match r with
  | .ok v s => g v s
  | .err t l => some (.pan (fltP t l) (St H c .dead L))
  | .no => none
def outK (c : Nat) (H : Heap) (L : List Box) (bx : σ → Box) (enc : α → PV) (r : Res σ α) : Option (Out PV) := elimK c H L r fun v s => some (.ok (enc v) (St H c (bx s) L))
def outS (c : Nat) (H : Heap) (L : List Box) (bx : σ → Box) (enc : α → PV) (r : α × σ) : Option (Out PV) := some (.ok (enc r.1) (St H c (bx r.2) L))
@[congr] theorem umb {r r' : Option (Out α)} {f : α → M β} (h : r = r') : bindK c r f = bindK c r' f := by rw [h]
@[congr] theorem um8 {σ α γ : Type} {L L' : List Box} {r r' : Res σ α} {g g' : α → σ → Option (Out γ)} (h : r = r') (hL : L = L') (hg : ∀ v s, r' = .ok v s → g v s = g' v s) : elimK c H L r g = elimK c H L' r' g' := by
  subst h hL
  cases r with
  | ok v s => exact hg v s rfl
  | err t l => rfl
  | no => rfl
theorem uk6 {L : List Box} {bx : σ → Box} {enc : α → PV} {r : Res σ α} : outK c H L bx enc r = elimK c H L r fun v s => some (.ok (enc v) (St H c (bx s) L)) := nrfl rfl
theorem uiv {L : List Box} {bx : σ → Box} {enc : α → PV} {v : α} {s : σ} : outK c H L bx enc (.ok v s) = some (.ok (enc v) (St H c (bx s) L)) := nrfl rfl
theorem ug4 {L : List Box} {bx : σ → Box} {enc : α → PV} {t : TypeId} {l : List Int} : outK c H L bx enc (Res.err t l : Res σ α) = some (.pan (fltP t l) (St H c .dead L)) := nrfl rfl
theorem uka {L : List Box} {bx : σ → Box} {enc : α → PV} : outK c H L bx enc (Res.no : Res σ α) = none := nrfl rfl
theorem ufd {γ : Type} {L : List Box} {g : α → σ → Option (Out γ)} : elimK c H L (Res.no : Res σ α) g = none := nrfl rfl
theorem ud0 {τ : Type} {β : Type} {L : List Box} {bx : σ → Box} {enc : α → PV} {r : Res τ β} {g : β → τ → Res σ α} : outK c H L bx enc (r.bind g) = elimK c H L r fun v s => outK c H L bx enc (g v s) := by cases r <;> rfl
theorem uf0 {L : List Box} {bx : σ → Box} {enc : α → PV} {p : Prop} [Decidable p] {r r' : Res σ α} : outK c H L bx enc (if p then r else r') = if p then outK c H L bx enc r else outK c H L bx enc r' := by split <;> rfl
theorem ugw {γ : Type} {L : List Box} {v : α} {s : σ} {g : α → σ → Option (Out γ)} : elimK c H L (.ok v s) g = g v s := nrfl rfl
theorem uca {γ : Type} {L : List Box} {t : TypeId} {l : List Int} {g : α → σ → Option (Out γ)} : elimK c H L (Res.err t l : Res σ α) g = some (.pan (fltP t l) (St H c .dead L)) := nrfl rfl
theorem ubg {γ : Type} {L : List Box} {p : Prop} [Decidable p] {r r' : Res σ α} {g : α → σ → Option (Out γ)} : elimK c H L (if p then r else r') g = if p then elimK c H L r g else elimK c H L r' g := by split <;> rfl
theorem u9w {γ τ β : Type} {L : List Box} {r : Res τ β} {f : β → τ → Res σ α} {g : α → σ → Option (Out γ)} : elimK c H L (r.bind f) g = elimK c H L r fun v s => elimK c H L (f v s) g := by cases r <;> rfl
theorem ufw {v : α} : killR c (some (.ok v H)) = some (.ok v H) := nrfl rfl
theorem u9s : killR c (none : Option (Out α)) = none := nrfl rfl
theorem u7j {v : PV} : killR c (some (.pan v H) : Option (Out α)) = some (.pan v (hset H c .dead)) := nrfl rfl
theorem uba {p : Prop} [Decidable p] {r r' : Option (Out α)} : killR c (if p then r else r') = if p then killR c r else killR c r' := by split <;> rfl
theorem uce {m : M α} {f : α → M β} : runK c (M.bind m f) H = bindK c (runK c m H) f := by
  unfold runK
  rw [run_bind]
  cases run m H with
  | none => rfl
  | some q => cases q <;> rfl
theorem ufi {f : α → M β} {v : α} : bindK c (some (.ok v H)) f = runK c (f v) H := nrfl rfl
theorem u98 {f : α → M β} : bindK c none f = none := nrfl rfl
theorem ude {f : α → M β} {v : PV} : bindK c (some (.pan v H)) f = some (.pan v H) := nrfl rfl
theorem ubb {p : Prop} [Decidable p] {r r' : Option (Out α)} {f : α → M β} : bindK c (if p then r else r') f = if p then bindK c r f else bindK c r' f := by split <;> rfl
theorem u9v {L : List Box} {r : Res σ α} {g : α → σ → Option (Out PV)} {f : PV → M β} : bindK c (elimK c H L r g) f = elimK c H L r fun v s => bindK c (g v s) f := by cases r <;> rfl
noncomputable def nbK (c : Nat) (H : Heap) (r : Option (Out α)) (f : α → M β) : Option (Out β) := killR c (nbR H r f)
@[congr] theorem un5 {r r' : Option (Out α)} {f : α → M β} (h : r = r') : nbK c H r f = nbK c H r' f := by rw [h]
theorem uj8 {m : M α} {f : α → M β} : runK c (nb m f) H = nbK c H (runK c m H) f := by
  unfold nbK runK nbR run nb killR
  dsimp only
  cases m H with
  | none => rfl
  | some q => cases q <;> rfl
theorem nbK_ok {f : α → M β} {v : α} : nbK c H (some (.ok v H)) f = runK c (f v) H := by
  unfold nbK
  rw [nbR_ok]
  rfl
theorem ugx {f : α → M β} : nbK c H none f = none := by
  unfold nbK nbR nb
  rfl
theorem uhw {p : Prop} [Decidable p] {r r' : Option (Out α)} {f : α → M β} : nbK c H (if p then r else r') f = if p then nbK c H r f else nbK c H r' f := by split <;> rfl
theorem uhg {m : M PV} (hc : c < List.length H) : runK c (trunc m) H = truncR H (runK c m H) := by
  unfold runK
  rw [u8y]
  cases run m H with
  | none => rfl
  | some q => cases q with
    | ok v K => rfl
    | pan v K =>
      show killR c (bif v.low H.length then some (Out.pan v (hcut K H.length)) else none) = (bif v.low H.length then some (Out.pan v (hcut (hset K c .dead) H.length)) else none)
      cases v.low H.length with
      | false => rfl
      | true =>
        simp only [cond_true, u7j, Option.some.injEq, Out.pan.injEq, true_and]
        unfold hset hcut
        rw [List.take_set]
theorem u9h {p : Bool} {m : M α} : runK c (guardM p m) H = if p = true then runK c m H else none := by cases p <;> rfl
theorem ub2 {v : PV} {m : M PV} : runK c (resT v m) H = if isTup v = true then none else runK c m H := by unfold resT; cases isTup v <;> rfl
theorem uda {p : Bool} {x y : M α} : runK c (condM (.bool p) x y) H = if p = true then runK c x H else runK c y H := by cases p <;> rfl
theorem uev {p : Bool} {m : M PV} : runK c (gd (.bool p) true m) H = if p = true then runK c m H else some (.ok (.tup []) H) := by cases p <;> rfl
theorem ug3 {p : Bool} {m : M PV} : runK c (gd (.bool p) false m) H = if p = true then some (.ok (.tup []) H) else runK c m H := by cases p <;> rfl
theorem ugu {b : Bool} {m : M PV} : runK c (gd (.tup []) b m) H = some (.ok (.tup []) H) := nrfl rfl
theorem udh {v : α} : runK c (M.pure v) H = some (.ok v H) := nrfl rfl
theorem uft {v : PV} : runK c (M.pan v : M α) H = some (.pan v (hset H c .dead)) := nrfl rfl
theorem ucv : runK c (M.fail : M α) H = none := nrfl rfl
theorem u9f {m : M PV} : runK c (noPan m) H = noPanR (run m H) := by
  unfold runK
  rw [u77]
  cases run m H with
  | none => rfl
  | some q => cases q <;> rfl
noncomputable def chkK (c : Nat) (r r' : Option (Out α)) (x : M β) (H : Heap) : Option (Out β) := killR c (chkR r r' x H)
@[congr] theorem un3 {r r' s s' : Option (Out α)} {x : M β} (h : r = s) (h' : r' = s') : chkK c r r' x H = chkK c s s' x H := by rw [h, h']
theorem ufo {m m' : M α} {x : M β} : runK c (chk m m' x) H = chkK c (run m H) (run m' H) x H := nrfl rfl
theorem ui4 {a : α} {K : Heap} {x : M β} : chkK c (some (.ok a K)) (some (.ok a K)) x H = runK c x H := by
  unfold chkK
  rw [ueb]
  rfl
theorem ucc {r : Option (Out α)} {x : M β} : chkK c none r x H = none := by
  unfold chkK chkR run chk
  rfl
theorem ufk {p : Prop} [Decidable p] {r r' s : Option (Out α)} {x : M β} : chkK c (if p then r else r') s x H = if p then chkK c r s x H else chkK c r' s x H := by split <;> rfl
theorem ucs {r : Option (Out α)} {x : M β} : chkR none r x H = none := by
  unfold chkR run chk
  rfl
theorem ufz {p : Prop} [Decidable p] {r r' s : Option (Out α)} {x : M β} : chkR (if p then r else r') s x H = if p then chkR r s x H else chkR r' s x H := by split <;> rfl
section
variable {n : Nat} {id o : Nat} {x y v i : PV} {cs : List PV} {m : Option Nat} {mv b : Bool} {L : List Box}
theorem uj7 : runK c (al cs) H = killR c (run (al cs) H) := nrfl rfl
theorem uih : runK c (bx n v) H = killR c (run (bx n v) H) := nrfl rfl
theorem uiz : runK c (ld m mv v) H = killR c (run (ld m mv v) H) := nrfl rfl
theorem uhv : runK c (st n mv x v) H = killR c (run (st n mv x v) H) := nrfl rfl
theorem ug1 : runK c (iaS n x i) H = killR c (run (iaS n x i) H) := nrfl rfl
theorem ugy {len : Nat} : runK c (ixA len n m x i) H = killR c (run (ixA len n m x i) H) := nrfl rfl
theorem uc2 : runK c (pick v x y) H = killR c (run (pick v x y) H) := nrfl rfl
theorem uho {t : TypeId} : runK c (mi t v) H = killR c (run (mi t v) H) := nrfl rfl
theorem uiy {t : FuncId} {l l' : List PV} : runK c (mf t l l') H = killR c (run (mf t l l') H) := nrfl rfl
theorem ukm {z : List PV} {ps : List (Nat × Nat × PV)} : runK c (bd z ps) H = killR c (run (bd z ps) H) := nrfl rfl
theorem uit {l : List PV} : runK c (bs b m l) H = killR c (run (bs b m l) H) := nrfl rfl
theorem uhq {k : Nat} : runK c (ap b n k x y) H = killR c (run (ap b n k x y) H) := nrfl rfl
theorem uki {k : Nat} : runK c (mk b n k x y) H = killR c (run (mk b n k x y) H) := nrfl rfl
theorem ufe : runK c (lnS x) H = killR c (run (lnS x) H) := nrfl rfl
theorem uff : runK c (lnL x) H = killR c (run (lnL x) H) := nrfl rfl
theorem ufa : runK c (ixS x i) H = killR c (run (ixS x i) H) := nrfl rfl
theorem ugm {lo hi : Option PV} : runK c (slS x lo hi) H = killR c (run (slS x lo hi) H) := nrfl rfl
theorem ugn {lo hi : Option PV} : runK c (slL n x lo hi) H = killR c (run (slL n x lo hi) H) := nrfl rfl
theorem uk8 {k : Cv} : runK c (cv k b x) H = killR c (run (cv k b x) H) := nrfl rfl
theorem uk7 : runK c (ex n x) H = killR c (run (ex n x) H) := nrfl rfl
theorem uiw {op : BinOp} {ek : EqK} : runK c (bi op ek x y) H = killR c (run (bi op ek x y) H) := nrfl rfl
theorem len_St {x : Box} : List.length (St H c x L) = List.length H + List.length L := by unfold St; rw [ue2, u5h]
theorem get_St {x : Box} (hc : c < List.length H) : hget (St H c x L) c = some x := by unfold St; rw [uam hc, uer hc]
theorem uid {x : Box} (k : Nat) : hget (St H c x L) (List.length H + k) = nth L k := u6t k
theorem uez {x : Box} : hget (St H c x L) (List.length H) = nth L 0 := u7v
theorem set_St {x y : Box} (hc : c < List.length H) : hset (St H c x L) c y = St H c y L := by unfold St; rw [uar hc, set_set]
theorem uja {x y : Box} (k : Nat) : hset (St H c x L) (List.length H + k) y = St H c x (L.set k y) := u6q k
theorem ufl {x y : Box} : hset (St H c x L) (List.length H) y = St H c x (L.set 0 y) := u7y
theorem add_St {x : Box} {K : List Box} : hadd (St H c x L) K = St H c x (L ++ K) := u65
theorem cut_St {x : Box} : hcut (St H c x L) (List.length H) = St H c x [] := by
  unfold St
  rw [cutA1]
  exact (List.append_nil _).symm
theorem u7l {r : Res σ α} {bx : Box} {g : α → σ → Option (Out PV)} : truncR (St H c bx []) (elimK c H L r g) = elimK c H [] r fun v s => truncR (St H c bx []) (g v s) := by
  cases r with
  | ok v s => rfl
  | err t l =>
    show truncR (St H c bx []) (some (Out.pan (fltP t l) (St H c .dead L))) = some (Out.pan (fltP t l) (St H c .dead []))
    rw [u62, if_pos uaw, len_St, List.length_nil, Nat.add_zero, cut_St]
  | no => rfl
theorem u81 {m : M PV} {x : Box} (hc : c < List.length H) : runK c (trunc m) (St H c x L) = truncR (St H c x L) (runK c m (St H c x L)) := uhg (by rw [len_St]; omega)
theorem ujb {bx : σ → Box} {enc : α → PV} {v : α} {s : σ} : outS c H L bx enc (v, s) = some (.ok (enc v) (St H c (bx s) L)) := nrfl rfl
theorem uif {bx : σ → Box} {enc : α → PV} {r : α × σ} {f : PV → M β} : bindR (outS c H L bx enc r) f = run (f (enc r.1)) (St H c (bx r.2) L) := nrfl rfl
end
end Go.Proofs.YtiamjepnlnjlfaaDoor.Pi
namespace Go.Proofs.YtiamjepnlnjlfaaDoor.Pi
theorem kDown : type_of% (And.intro (And.intro (And.intro (And.intro (And.intro @uiv @ug4) (And.intro @uka (And.intro @ufd @ud0))) (And.intro
    (And.intro @uf0 @ugw) (And.intro @uca (And.intro @ubg @u9w)))) (And.intro (And.intro (And.intro @ufw @u9s)
    (And.intro @u7j (And.intro @uba @uce))) (And.intro (And.intro @ufi (And.intro @u98 @ude)) (And.intro @ubb
    (And.intro @u9v @u7l))))) (And.intro (And.intro (And.intro (And.intro @uj8 @nbK_ok) (And.intro @ugx (And.intro @uhw
    @u81))) (And.intro (And.intro @u9h (And.intro @ub2 @uda)) (And.intro @uev (And.intro @ug3 @ugu))))
    (And.intro (And.intro (And.intro @udh @uft) (And.intro @ucv (And.intro @u9f @ufo))) (And.intro (And.intro @ui4
    (And.intro @ucc @ufk)) (And.intro @ucs (And.intro @ufz @uif)))))) := (And.intro (And.intro (And.intro (And.intro (And.intro @uiv @ug4) (And.intro @uka (And.intro @ufd @ud0))) (And.intro
    (And.intro @uf0 @ugw) (And.intro @uca (And.intro @ubg @u9w)))) (And.intro (And.intro (And.intro @ufw @u9s)
    (And.intro @u7j (And.intro @uba @uce))) (And.intro (And.intro @ufi (And.intro @u98 @ude)) (And.intro @ubb
    (And.intro @u9v @u7l))))) (And.intro (And.intro (And.intro (And.intro @uj8 @nbK_ok) (And.intro @ugx (And.intro @uhw
    @u81))) (And.intro (And.intro @u9h (And.intro @ub2 @uda)) (And.intro @uev (And.intro @ug3 @ugu))))
    (And.intro (And.intro (And.intro @udh @uft) (And.intro @ucv (And.intro @u9f @ufo))) (And.intro (And.intro @ui4
    (And.intro @ucc @ufk)) (And.intro @ucs (And.intro @ufz @uif))))))
theorem kUp : type_of% (And.intro (And.intro (And.intro (And.intro (And.intro @uk6 @ujb) (And.intro @uhu @uaw)) (And.intro (And.intro @uj7 @uih)
    (And.intro @uiz @uhv))) (And.intro (And.intro (And.intro @ug1 @ugy) (And.intro @uc2 @uho)) (And.intro (And.intro
    @uiy @ukm) (And.intro @uit (And.intro @uhq @uki))))) (And.intro (And.intro (And.intro (And.intro @ufe @uff)
    (And.intro @ufa @ugm)) (And.intro (And.intro @ugn @uk8) (And.intro @uk7 @uiw))) (And.intro (And.intro (And.intro @len_St
    @get_St) (And.intro @uid @uez)) (And.intro (And.intro @set_St @uja) (And.intro @ufl (And.intro @add_St @cut_St)))))) := (And.intro (And.intro (And.intro (And.intro (And.intro @uk6 @ujb) (And.intro @uhu @uaw)) (And.intro (And.intro @uj7 @uih)
    (And.intro @uiz @uhv))) (And.intro (And.intro (And.intro @ug1 @ugy) (And.intro @uc2 @uho)) (And.intro (And.intro
    @uiy @ukm) (And.intro @uit (And.intro @uhq @uki))))) (And.intro (And.intro (And.intro (And.intro @ufe @uff)
    (And.intro @ufa @ugm)) (And.intro (And.intro @ugn @uk8) (And.intro @uk7 @uiw))) (And.intro (And.intro (And.intro @len_St
    @get_St) (And.intro @uid @uez)) (And.intro (And.intro @set_St @uja) (And.intro @ufl (And.intro @add_St @cut_St))))))
end Go.Proofs.YtiamjepnlnjlfaaDoor.Pi
namespace Go.Proofs.YtiamjepnlnjlfaaDoor.Pi.Q
open Go Go.Proofs.YtiamjepnlnjlfaaDoor.Pi
noncomputable abbrev P : Program := Tryd.prog
noncomputable abbrev X : ExtT := fun _ => none
noncomputable abbrev C := callW P X
noncomputable abbrev CD := callDW P X
abbrev u21 : FuncId := 6
abbrev u11 : FuncId := 11
abbrev u12 : FuncId := 19
abbrev u27 : FuncId := 22
abbrev u2r : FuncId := 25
abbrev u0r : FuncId := 26
abbrev u48 : FuncId := 27
abbrev u25 : FuncId := 28
abbrev u35 : FuncId := 29
abbrev u1n : FuncId := 30
abbrev u4n : FuncId := 32
abbrev u1k : FuncId := 34
abbrev u4y : FuncId := 37
abbrev u2g : FuncId := 40
abbrev u20 : FuncId := 41
abbrev u0q : FuncId := 43
abbrev u2e : FuncId := 44
abbrev u1o : FuncId := 45
abbrev u14 : FuncId := 46
abbrev u54 : FuncId := 47
abbrev u1l : FuncId := 48
abbrev u0j : FuncId := 49
abbrev u2u : FuncId := 50
abbrev u8w : FuncId := 51
abbrev u0l : FuncId := 52
abbrev u0y : FuncId := 53
abbrev u1i : FuncId := 54
abbrev u08 : FuncId := 55
abbrev u16 : FuncId := 56
abbrev u5o : FuncId := 57
abbrev u1y : FuncId := 58
abbrev u24 : FuncId := 59
abbrev u3d : FuncId := 60
abbrev u0v : FuncId := 61
abbrev u1f : TypeId := 68
end Go.Proofs.YtiamjepnlnjlfaaDoor.Pi.Q
namespace Go.Proofs.YtiamjepnlnjlfaaDoor.Pi.Q
open Go Go.Proofs.YtiamjepnlnjlfaaDoor.Pi
theorem u3a (a0 a1 a2 : PV) : C u21 [a0, a1, a2] =
 trunc (M.bind (C u12 [(strip (strip a0))]) fun t20_0 =>
 M.bind (lnL (strip a0)) fun t23_1 =>
 M.bind (slL 1 (strip t20_0) none (some t23_1)) fun t24_2 =>
 M.bind (C u2r [(strip (strip t24_2))]) fun t27_3 =>
 M.bind (ex 0 (strip t27_3)) fun t28_4 =>
 M.bind (ex 1 (tupDrop 0 (strip t27_3))) fun t29_5 =>
 M.bind (C u0r [(strip (strip a0))]) fun t32_6 =>
 M.bind (ex 0 (strip t32_6)) fun t33_7 =>
 M.bind (ex 1 (tupDrop 0 (strip t32_6))) fun t34_8 =>
 M.bind (bi .neq .none (strip t28_4) (strip t33_7)) fun t37_9 =>
 M.bind (gd (strip t37_9) false (M.pure (strip t29_5))) fun t39_10 =>
 M.bind (gd (strip t37_9) false (M.pure (strip t34_8))) fun t40_11 =>
 M.bind (gd (strip t37_9) false (bi .neq .bool t39_10 t40_11)) fun t41_12 =>
 M.bind (pick (strip t37_9) (.bool true) t41_12) fun t42_13 =>
 condM t42_13
 (M.pure (.bool false))
 (M.bind (C u48 [(strip (strip t24_2)), (strip (strip a1))]) fun t46_14 =>
 M.bind (ex 0 (strip t46_14)) fun t47_15 =>
 M.bind (ex 1 (tupDrop 0 (strip t46_14))) fun t48_16 =>
 M.bind (ex 2 (tupDrop 1 (tupDrop 0 (strip t46_14)))) fun t49_17 =>
 M.bind (C u25 [(strip (strip a0)), (strip (strip a1))]) fun t53_18 =>
 M.bind (ex 0 (strip t53_18)) fun t54_19 =>
 M.bind (ex 1 (tupDrop 0 (strip t53_18))) fun t55_20 =>
 M.bind (ex 2 (tupDrop 1 (tupDrop 0 (strip t53_18)))) fun t56_21 =>
 M.bind (bi .neq .none (strip t47_15) (strip t54_19)) fun t59_22 =>
 M.bind (gd (strip t59_22) false (M.pure (strip t48_16))) fun t61_23 =>
 M.bind (gd (strip t59_22) false (M.pure (strip t55_20))) fun t62_24 =>
 M.bind (gd (strip t59_22) false (bi .neq .none t61_23 t62_24)) fun t63_25 =>
 M.bind (pick (strip t59_22) (.bool true) t63_25) fun t64_26 =>
 M.bind (gd (strip t64_26) false (M.pure (strip t49_17))) fun t66_27 =>
 M.bind (gd (strip t64_26) false (M.pure (strip t56_21))) fun t67_28 =>
 M.bind (gd (strip t64_26) false (bi .neq .none t66_27 t67_28)) fun t68_29 =>
 M.bind (pick (strip t64_26) (.bool true) t68_29) fun t69_30 =>
 M.bind (gd (strip t69_30) false (M.pure (strip t20_0))) fun t71_31 =>
 M.bind (gd (strip t69_30) false (M.pure (strip a0))) fun t72_32 =>
 M.bind (gd (strip t69_30) false (C u27 [(strip t71_31), (strip t72_32)])) fun t73_33 =>
 M.bind (gd (strip t69_30) false (un .not t73_33)) fun t74_34 =>
 M.bind (pick (strip t69_30) (.bool true) t74_34) fun t75_35 =>
 condM t75_35
 (M.pure (.bool false))
 (M.bind (C u35 [(strip (strip a2))]) fun t78_36 =>
 M.bind (ex 0 (strip t78_36)) fun t79_37 =>
 M.bind (ex 1 (tupDrop 0 (strip t78_36))) fun t80_38 =>
 M.bind (C u1n [(strip (strip a2))]) fun t83_39 =>
 M.bind (ex 0 (strip t83_39)) fun t84_40 =>
 M.bind (ex 1 (tupDrop 0 (strip t83_39))) fun t85_41 =>
 M.bind (bi .eql .none (strip t80_38) (strip t85_41)) fun t88_42 =>
 M.bind (gd (strip t88_42) true (M.pure (strip t79_37))) fun t90_43 =>
 M.bind (gd (strip t88_42) true (M.pure (strip t84_40))) fun t91_44 =>
 M.bind (gd (strip t88_42) true (C u11 [(strip t90_43), (strip t91_44)])) fun t92_45 =>
 M.bind (pick (strip t88_42) t92_45 (.bool false)) fun t93_46 =>
 resT t93_46 (M.pure t93_46)))) := by
 rw [C, u0i _ _ rfl]; kernel_rfl
theorem u4x (a0 a1 : PV) : C u11 [a0, a1] =
 trunc (M.bind (cv .bytesToStr true (strip a0)) fun t6_0 =>
 M.bind (cv .bytesToStr true (strip a1)) fun t8_1 =>
 M.bind (bi .eql .none t6_0 t8_1) fun t9_2 =>
 resT t9_2 (M.pure t9_2)) := by
 rw [C, u0i _ _ rfl]; kernel_rfl
noncomputable def u0o (v2 v3 v4 : PV) : M PV := atP P X u12 [1, 1, 1, 0, 1, 0] (mkEnv 19 0 [(2, v2), (3, v3), (4, v4)])
theorem u1m (v2 v3 v4 : PV) : u0o v2 v3 v4 =
 M.bind (bi .lss .none (strip v4) (.int .i64 9)) fun t9_0 =>
 condM t9_0
 (M.bind (bi .add .none (.int .i64 200) (strip v4)) fun t14_1 =>
 M.bind (cv (.int .u8) true t14_1) fun t15_2 =>
 M.bind (bs true none [t15_2]) fun t16_3 =>
 M.bind (ap true 1 1 v3 t16_3) fun t17_4 =>
 M.bind (bi .add .none (strip v4) (.int .i64 1)) fun t11_5 =>
 u0o v2 t17_4 t11_5)
 (resT v3 (M.pure v3)) :=
 (u0w P X _ _ _).trans (by kernel_rfl)
theorem u4w (a0 : PV) : C u12 [a0] =
 trunc (M.bind (ap true 1 1 (.slice false true 0 []) (strip a0)) fun t7_0 =>
 u0o (.slice false true 0 []) t7_0 (.int .i64 0)) := by
 rw [C, u0i _ _ rfl]; kernel_rfl
theorem u4v (a0 a1 : PV) : C u27 [a0, a1] =
 trunc (M.bind (C u12 [(strip (strip a1))]) fun t7_0 =>
 M.bind (C u11 [(strip (strip a0)), (strip t7_0)]) fun t8_1 =>
 resT t8_1 (M.pure t8_1)) := by
 rw [C, u0i _ _ rfl]; kernel_rfl
end Go.Proofs.YtiamjepnlnjlfaaDoor.Pi.Q
namespace Go.Proofs.YtiamjepnlnjlfaaDoor.Pi.Q
open Go Go.Proofs.YtiamjepnlnjlfaaDoor.Pi
noncomputable def u1v (v0 v2 v3 v9 : PV) : M PV := atP P X u2r [1, 0, 1, 0] (mkEnv 37 0 [(0, v0), (2, v2), (3, v3), (9, v9)])
theorem u1z (v0 v2 v3 v9 : PV) : u1v v0 v2 v3 v9 =
 M.bind (nx v9) fun t10_0 =>
 M.bind (ex 0 t10_0) fun t11_1 =>
 condM t11_1
 (M.bind (ex 1 (tupDrop 0 t10_0)) fun t12_2 =>
 M.bind (slL 1 (strip v0) (some (strip t12_2)) none) fun t16_3 =>
 M.bind (C u0q [(strip t16_3)]) fun t17_4 =>
 M.bind (ex 0 (strip t17_4)) fun t18_5 =>
 M.bind (ex 1 (tupDrop 0 (strip t17_4))) fun t19_6 =>
 M.bind (bi .eql .none (strip t18_5) (.int .i32 65533)) fun t21_7 =>
 M.bind (gd (strip t21_7) true (M.pure (strip t19_6))) fun t23_8 =>
 M.bind (gd (strip t21_7) true (bi .leq .none t23_8 (.int .i64 1))) fun t24_9 =>
 M.bind (pick (strip t21_7) t24_9 (.bool false)) fun t25_10 =>
 condM t25_10
 (M.bind (lnL (strip v0)) fun t30_11 =>
 M.bind (bi .add .none (strip t12_2) (.int .i64 4)) fun t32_12 =>
 M.bind (mn t30_11 t32_12) fun t33_13 =>
 M.bind (slL 1 (strip v0) (some (strip t12_2)) (some t33_13)) fun t34_14 =>
 M.bind (C u2e [(strip t34_14)]) fun t35_15 =>
 M.bind (bi .add .none (strip t12_2) t35_15) fun t36_16 =>
 resT t36_16 (M.pure (.tup [t36_16, (.bool false)])))
 (u1v v0 v2 v3 v9))
 (M.pure (.tup [(.int .i64 0), (.bool true)])) :=
 (u0w P X _ _ _).trans (by kernel_rfl)
theorem uab (a0 : PV) : C u2r [a0] =
 trunc (M.bind (cv .bytesToStr true (strip a0)) fun t8_0 =>
 M.bind (rg t8_0) fun t9_1 =>
 u1v a0 (.int .i64 0) (.bool false) t9_1) := by
 rw [C, u0i _ _ rfl]; kernel_rfl
noncomputable def u0k (v0 v2 v3 v4 : PV) : M PV := atP P X u0r [1, 0, 1, 0] (mkEnv 51 0 [(0, v0), (2, v2), (3, v3), (4, v4)])
noncomputable def u0h (v0 v2 v3 v4 v5 v6 : PV) : M PV := atP P X u0r [1, 0, 1, 0, 0, 1, 0, 1, 1, 0, 1, 0] (mkEnv 51 0 [(0, v0), (2, v2), (3, v3), (4, v4), (5, v5), (6, v6)])
theorem u39 (v0 v2 v3 v4 : PV) : u0k v0 v2 v3 v4 =
 M.bind (lnL (strip v0)) fun t9_0 =>
 M.bind (bi .lss .none (strip v4) t9_0) fun t10_1 =>
 condM t10_1
 (M.bind (iaS 1 (strip v0) (strip v4)) fun t13_2 =>
 M.bind (ld none false t13_2) fun t14_3 =>
 M.bind (C u1o [(strip t14_3)]) fun t15_4 =>
 M.bind (bi .eql .none (strip t15_4) (.int .i64 0)) fun t17_5 =>
 condM t17_5
 (resT v4 (M.pure (.tup [v4, (.bool false)])))
 (u0h v0 v2 v3 v4 t15_4 (.int .i64 1)))
 (M.pure (.tup [(.int .i64 0), (.bool true)])) :=
 (u0w P X _ _ _).trans (by kernel_rfl)
theorem u13 (v0 v2 v3 v4 v5 v6 : PV) : u0h v0 v2 v3 v4 v5 v6 =
 M.bind (bi .lss .none (strip v6) (strip v5)) fun t21_0 =>
 condM t21_0
 (M.bind (bi .add .none (strip v4) (strip v6)) fun t26_1 =>
 M.bind (lnL (strip v0)) fun t28_2 =>
 M.bind (bi .geq .none t26_1 t28_2) fun t29_3 =>
 condM t29_3
 (M.bind (lnL (strip v0)) fun t31_4 =>
 resT t31_4 (M.pure (.tup [t31_4, (.bool false)])))
 (M.bind (noPan (M.pure (strip v0))) fun t32_18 =>
 M.bind (noPan (M.pure (strip v4))) fun t33_19 =>
 M.bind (noPan (iaS 1 t32_18 t33_19)) fun t34_20 =>
 M.bind (noPan (M.pure (strip v6))) fun t36_21 =>
 M.bind (noPan (M.pure (strip v0))) fun t37_22 =>
 M.bind (noPan (M.pure (strip v4))) fun t38_23 =>
 M.bind (noPan (M.pure (strip v6))) fun t39_24 =>
 M.bind (noPan (bi .add .none t38_23 t39_24)) fun t40_25 =>
 M.bind (noPan (iaS 1 t37_22 t40_25)) fun t41_26 =>
 M.bind (noPan (ld none false t34_20)) fun t35_27 =>
 M.bind (noPan (ld none false t41_26)) fun t42_28 =>
 M.bind (noPan (C u14 [(strip t35_27), (strip t36_21), (strip t42_28)])) fun t43_29 =>
 M.bind (noPan (un .not t43_29)) fun t44_30 =>
 condM t44_30
 (M.bind (bi .add .none (strip v4) (strip v6)) fun t47_31 =>
 resT t47_31 (M.pure (.tup [t47_31, (.bool false)])))
 (M.bind (bi .add .none (strip v6) (.int .i64 1)) fun t23_32 =>
 u0h v0 v2 v3 v4 v5 t23_32)))
 (M.bind (bi .add .none (strip v4) (strip v5)) fun t50_33 =>
 u0k v0 v2 v3 t50_33) :=
 (u0w P X _ _ _).trans (by kernel_rfl)
theorem u4u (a0 : PV) : C u0r [a0] =
 trunc (u0k a0 (.int .i64 0) (.bool false) (.int .i64 0)) := by
 rw [C, u0i _ _ rfl]; kernel_rfl
theorem uan (a0 a1 : PV) : C u48 [a0, a1] =
 trunc (M.bind (bx 1 a0) fun t2_0 =>
 M.bind (bx 1 a1) fun t3_1 =>
 M.bind (ld none false t3_1) fun t10_2 =>
 M.bind (bi .lss .none t10_2 (.int .i64 0)) fun t11_3 =>
 M.bind (gd (strip t11_3) false (ld none false t3_1)) fun t13_4 =>
 M.bind (gd (strip t11_3) false (ld none false t2_0)) fun t14_5 =>
 M.bind (gd (strip t11_3) false (lnL t14_5)) fun t15_6 =>
 M.bind (gd (strip t11_3) false (bi .gtr .none t13_4 t15_6)) fun t16_7 =>
 M.bind (pick (strip t11_3) (.bool true) t16_7) fun t17_8 =>
 condM t17_8
 (M.pure (.tup [(.str ⟨#[]⟩), (.int .i64 0), (.int .i64 1)]))
 (M.bind (al [(.str ⟨#[]⟩)]) fun t7_9 =>
 M.bind (al [(.int .i64 0)]) fun t8_10 =>
 M.bind (st 1 false t7_9 (.str ⟨#[]⟩)) fun _ =>
 M.bind (st 1 false t8_10 (.int .i64 0)) fun _ =>
 M.bind (mf u54 [] [t2_0, t3_1, t7_9, t8_10]) fun t18_13 =>
 M.bind (C u4y [(strip t18_13)]) fun t19_14 =>
 M.bind (al [(.int .i64 0), (.int .i64 0)]) fun t9_15 =>
 M.bind (st 2 true t9_15 t19_14) fun _ =>
 M.bind (fa 1 t9_15) fun t20_17 =>
 M.bind (ld none false t20_17) fun t21_18 =>
 M.bind (bi .neq .none t21_18 (.int .i64 0)) fun t22_19 =>
 condM t22_19
 (nb (fa 0 t9_15) fun t23_20 =>
 nb (ld none true t23_20) fun t24_21 =>
 nb (fa 1 t9_15) fun t25_22 =>
 nb (ld none true t25_22) fun t26_23 =>
 resT t24_21 (resT t26_23 (M.pure (.tup [(.str ⟨#[]⟩), t24_21, t26_23]))))
 (nb (ld none true t7_9) fun t27_24 =>
 nb (ld none true t8_10) fun t28_25 =>
 resT t27_24 (resT t28_25 (M.pure (.tup [t27_24, t28_25, (.int .i64 0)])))))) := by
 rw [C, u0i _ _ rfl]; kernel_rfl
theorem u4r (a0 a1 : PV) : C u25 [a0, a1] =
 trunc (M.bind (bi .lss .none (strip a1) (.int .i64 0)) fun t8_0 =>
 M.bind (gd (strip t8_0) false (M.pure (strip a1))) fun t10_1 =>
 M.bind (gd (strip t8_0) false (M.pure (strip a0))) fun t11_2 =>
 M.bind (gd (strip t8_0) false (lnL t11_2)) fun t12_3 =>
 M.bind (gd (strip t8_0) false (bi .gtr .none t10_1 t12_3)) fun t13_4 =>
 M.bind (pick (strip t8_0) (.bool true) t13_4) fun t14_5 =>
 condM t14_5
 (M.pure (.tup [(.str ⟨#[]⟩), (.int .i64 0), (.int .i64 1)]))
 (M.bind (lnL (strip a0)) fun t18_6 =>
 M.bind (C u20 [(strip (strip a0)), (strip (strip a1)), (strip t18_6)]) fun t19_7 =>
 M.bind (ex 0 t19_7) fun t20_8 =>
 M.bind (ex 1 (tupDrop 0 t19_7)) fun t21_9 =>
 M.bind (ex 2 (tupDrop 1 (tupDrop 0 t19_7))) fun t22_10 =>
 resT t20_8 (resT t21_9 (resT t22_10 (M.pure (.tup [t20_8, t21_9, t22_10])))))) := by
 rw [C, u0i _ _ rfl]; kernel_rfl
theorem u6m (a0 : PV) : C u35 [a0] =
 trunc (M.bind (lnS (strip a0)) fun t5_0 =>
 M.bind (bi .gtr .none t5_0 (.int .i64 65536)) fun t6_1 =>
 condM t6_1
 (M.pure (.tup [(.slice false true 0 []), (.int .i64 2)]))
 (M.bind (C u0j [(strip (strip a0))]) fun t8_2 =>
 M.bind (un .not t8_2) fun t9_3 =>
 condM t9_3
 (M.pure (.tup [(.slice false true 0 []), (.int .i64 21)]))
 (M.bind (lnS (strip a0)) fun t11_4 =>
 M.bind (cv (.int .u64) true t11_4) fun t12_5 =>
 M.bind (C u4n [(strip t12_5)]) fun t13_6 =>
 M.bind (ap true 1 1 t13_6 (strip a0)) fun t15_7 =>
 resT t15_7 (M.pure (.tup [t15_7, (.int .i64 0)]))))) := by
 rw [C, u0i _ _ rfl]; kernel_rfl
theorem u3q (a0 : PV) : C u1n [a0] =
 trunc (M.bind (lnS (strip a0)) fun t7_0 =>
 M.bind (bi .gtr .none t7_0 (.int .i64 65536)) fun t8_1 =>
 condM t8_1
 (M.pure (.tup [(.slice false true 0 []), (.int .i64 2)]))
 (M.bind (cv (.strToBytes 5) true (strip a0)) fun t11_2 =>
 M.bind (C u0r [(strip t11_2)]) fun t12_3 =>
 M.bind (ex 0 (strip t12_3)) fun t13_4 =>
 M.bind (ex 1 (tupDrop 0 (strip t12_3))) fun t14_5 =>
 M.bind (un .not (strip t14_5)) fun t16_6 =>
 condM t16_6
 (M.pure (.tup [(.slice false true 0 []), (.int .i64 21)]))
 (M.bind (lnS (strip a0)) fun t18_7 =>
 M.bind (cv (.int .u64) true t18_7) fun t19_8 =>
 M.bind (C u1k [(strip t19_8)]) fun t20_9 =>
 M.bind (ap true 1 1 t20_9 (strip a0)) fun t22_10 =>
 resT t22_10 (M.pure (.tup [t22_10, (.int .i64 0)]))))) := by
 rw [C, u0i _ _ rfl]; kernel_rfl
noncomputable def u1r (v0 v2 v3 : PV) : M PV := atP P X u4n [1, 1, 0, 0] (mkEnv 19 0 [(0, v0), (2, v2), (3, v3)])
theorem u3b (v0 v2 v3 : PV) : u1r v0 v2 v3 =
 M.bind (bi .gtr .none (strip v0) (.int .u64 127)) fun t5_0 =>
 condM t5_0
 (M.bind (cv (.int .u8) true (strip v0)) fun t10_1 =>
 M.bind (bi .or .none t10_1 (.int .u8 128)) fun t11_2 =>
 M.bind (bs true none [t11_2]) fun t12_3 =>
 M.bind (ap true 1 1 v3 t12_3) fun t13_4 =>
 M.bind (bi .shr .none (strip v0) (.int .u64 7)) fun t7_5 =>
 u1r t7_5 v2 t13_4)
 (M.bind (cv (.int .u8) true (strip v0)) fun t16_6 =>
 M.bind (bs true none [t16_6]) fun t17_7 =>
 M.bind (ap true 1 1 v3 t17_7) fun t18_8 =>
 resT t18_8 (M.pure t18_8)) :=
 (u0w P X _ _ _).trans (by kernel_rfl)
theorem uej (a0 : PV) : C u4n [a0] =
 trunc (u1r a0 (.slice false true 0 []) (.slice false true 0 [])) := by
 rw [C, u0i _ _ rfl]; kernel_rfl
noncomputable def u0t (v0 v2 v3 : PV) : M PV := atP P X u1k [1, 1, 0, 0] (mkEnv 20 0 [(0, v0), (2, v2), (3, v3)])
theorem u1s (v0 v2 v3 : PV) : u0t v0 v2 v3 =
 M.bind (bi .geq .none (strip v0) (.int .u64 128)) fun t5_0 =>
 condM t5_0
 (M.bind (bi .rem .none (strip v0) (.int .u64 128)) fun t8_1 =>
 M.bind (cv (.int .u8) true t8_1) fun t9_2 =>
 M.bind (bi .add .none t9_2 (.int .u8 128)) fun t10_3 =>
 M.bind (bs true none [t10_3]) fun t11_4 =>
 M.bind (ap true 1 1 v3 t11_4) fun t12_5 =>
 M.bind (bi .quo .none (strip v0) (.int .u64 128)) fun t14_6 =>
 u0t t14_6 v2 t12_5)
 (M.bind (cv (.int .u8) true (strip v0)) fun t17_7 =>
 M.bind (bs true none [t17_7]) fun t18_8 =>
 M.bind (ap true 1 1 v3 t18_8) fun t19_9 =>
 resT t19_9 (M.pure t19_9)) :=
 (u0w P X _ _ _).trans (by kernel_rfl)
theorem u4s (a0 : PV) : C u1k [a0] =
 trunc (u0t a0 (.slice false true 0 []) (.slice false true 0 [])) := by
 rw [C, u0i _ _ rfl]; kernel_rfl
theorem u4a (a0 : PV) : C u4y [a0] =
 trunc (M.bind (al [(.int .i64 0), (.int .i64 0)]) fun t2_0 =>
 M.bind (mf u2u [] [t2_0]) fun t3_1 =>
 guardM (isPtr t2_0) <| deferM CD t3_1 []
 (M.bind (callV P C (strip a0) []) fun t5_2 =>
 M.bind (bd [(.int .i64 0), (.int .i64 0)] []) fun t6_3 =>
 M.bind (st 2 true t2_0 t6_3) fun _ =>
 M.bind (ld (some 2) true t2_0) fun t0_5 => guardM (!isTup t0_5) (M.pure t0_5))
 (M.bind (ld (some 2) true t2_0) fun t0_6 => guardM (!isTup t0_6) (M.pure t0_6))) := by
 rw [C, u0i _ _ rfl]; kernel_rfl
theorem u5j (a0 a1 a2 : PV) : C u2g [a0, a1, a2] =
 trunc (M.bind (C u0l [(strip (strip a0)), (strip (strip a1)), (strip (strip a2)), (.int .i64 32), (.bool false)]) fun t16_0 =>
 M.bind (ex 0 (strip t16_0)) fun t17_1 =>
 M.bind (ex 1 (tupDrop 0 (strip t16_0))) fun t18_2 =>
 M.bind (ex 2 (tupDrop 1 (tupDrop 0 (strip t16_0)))) fun t19_3 =>
 M.bind (cv (.int .u32) true (strip t17_1)) fun t21_4 =>
 resT t21_4 (resT t18_2 (resT t19_3 (M.pure (.tup [t21_4, t18_2, t19_3]))))) := by
 rw [C, u0i _ _ rfl]; kernel_rfl
theorem u45 (a0 a1 a2 : PV) : C u20 [a0, a1, a2] =
 trunc (M.bind (C u2g [(strip (strip a0)), (strip (strip a1)), (strip (strip a2))]) fun t18_0 =>
 M.bind (ex 0 (strip t18_0)) fun t19_1 =>
 M.bind (ex 1 (tupDrop 0 (strip t18_0))) fun t20_2 =>
 M.bind (ex 2 (tupDrop 1 (tupDrop 0 (strip t18_0)))) fun t21_3 =>
 M.bind (bi .neq .none (strip t21_3) (.int .i64 0)) fun t23_4 =>
 condM t23_4
 (resT t20_2 (resT t21_3 (M.pure (.tup [(.str ⟨#[]⟩), t20_2, t21_3]))))
 (M.bind (bi .gtr .none (strip t19_1) (.int .u32 65536)) fun t27_5 =>
 condM t27_5
 (resT a1 (M.pure (.tup [(.str ⟨#[]⟩), a1, (.int .i64 2)])))
 (M.bind (bi .sub .none (strip a2) (strip t20_2)) fun t31_6 =>
 M.bind (cv (.int .i64) true (strip t19_1)) fun t33_7 =>
 M.bind (bi .lss .none t31_6 t33_7) fun t34_8 =>
 condM t34_8
 (resT a2 (M.pure (.tup [(.str ⟨#[]⟩), a2, (.int .i64 3)])))
 (M.bind (cv (.int .i64) true (strip t19_1)) fun t41_9 =>
 M.bind (bi .add .none (strip t20_2) t41_9) fun t42_10 =>
 M.bind (slL 1 (strip a0) (some (strip t20_2)) (some t42_10)) fun t43_11 =>
 M.bind (C u0r [(strip t43_11)]) fun t44_12 =>
 M.bind (ex 0 (strip t44_12)) fun t45_13 =>
 M.bind (ex 1 (tupDrop 0 (strip t44_12))) fun t46_14 =>
 M.bind (un .not (strip t46_14)) fun t48_15 =>
 condM t48_15
 (M.bind (bi .add .none (strip t20_2) (strip t45_13)) fun t51_16 =>
 resT t51_16 (M.pure (.tup [(.str ⟨#[]⟩), t51_16, (.int .i64 21)])))
 (M.bind (cv (.int .i64) true (strip t19_1)) fun t56_17 =>
 M.bind (bi .add .none (strip t20_2) t56_17) fun t57_18 =>
 M.bind (slL 1 (strip a0) (some (strip t20_2)) (some t57_18)) fun t58_19 =>
 M.bind (cv .bytesToStr true t58_19) fun t59_20 =>
 M.bind (cv (.int .i64) true (strip t19_1)) fun t62_21 =>
 M.bind (bi .add .none (strip t20_2) t62_21) fun t63_22 =>
 resT t59_20 (resT t63_22 (M.pure (.tup [t59_20, t63_22, (.int .i64 0)])))))))) := by
 rw [C, u0i _ _ rfl]; kernel_rfl
noncomputable def u1e (v0 v2 v3 v6 v7 v8 : PV) : M PV := atP P X u0q [1, 0, 1, 0] (mkEnv 22 0 [(0, v0), (2, v2), (3, v3), (6, v6), (7, v7), (8, v8)])
noncomputable def u0z (v0 v2 v3 : PV) : M PV := atP P X u0q [1, 1] (mkEnv 22 0 [(0, v0), (2, v2), (3, v3)])
theorem u19 (v0 v2 v3 v6 v7 v8 : PV) : u1e v0 v2 v3 v6 v7 v8 =
 M.bind (bi .lss .none v8 v7) fun t9_0 =>
 condM t9_0
 (M.bind (iaS 1 v6 v8) fun t10_1 =>
 M.bind (ld none true t10_1) fun t11_2 =>
 M.bind (bi .lss .none (strip t11_2) (.int .u8 128)) fun t13_3 =>
 condM t13_3
 (M.bind (cv (.int .i32) true (strip t11_2)) fun t15_4 =>
 resT t15_4 (M.pure (.tup [t15_4, (.int .i64 1)])))
 (u0z v0 v2 v3))
 (u0z v0 v2 v3) :=
 (u0w P X _ _ _).trans (by kernel_rfl)
theorem u2l (v0 v2 v3 : PV) : u0z v0 v2 v3 =
 M.bind (C u0y [(strip (strip v0))]) fun t19_0 =>
 M.bind (ex 0 (strip t19_0)) fun t20_1 =>
 M.bind (ex 1 (tupDrop 0 (strip t19_0))) fun t21_2 =>
 resT t20_1 (resT t21_2 (M.pure (.tup [t20_1, t21_2]))) :=
 (u0w P X _ _ _).trans (by kernel_rfl)
theorem u1x (a0 : PV) : C u0q [a0] =
 trunc (M.bind (lnL (strip a0)) fun t7_0 =>
 u1e a0 (.int .i32 0) (.int .i64 0) (strip a0) t7_0 (.int .i64 0)) := by
 rw [C, u0i _ _ rfl]; kernel_rfl
noncomputable def u1a (v0 v2 v3 : PV) : M PV := atP P X u2e [1, 0, 1, 0] (mkEnv 20 0 [(0, v0), (2, v2), (3, v3)])
theorem u2b (v0 v2 v3 : PV) : u1a v0 v2 v3 =
 M.bind (bi .gtr .none (strip v3) (.int .i64 0)) fun t7_0 =>
 condM t7_0
 (M.bind (bi .lss .none (strip v3) (.int .i64 4)) fun t11_1 =>
 M.bind (gd (strip t11_1) true (M.pure (strip v0))) fun t13_2 =>
 M.bind (gd (strip t11_1) true (M.pure (strip v3))) fun t14_3 =>
 M.bind (gd (strip t11_1) true (slL 1 t13_2 none (some t14_3))) fun t15_4 =>
 M.bind (gd (strip t11_1) true (C u1i [(strip t15_4)])) fun t16_5 =>
 M.bind (gd (strip t11_1) true (un .not t16_5)) fun t17_6 =>
 M.bind (pick (strip t11_1) t17_6 (.bool false)) fun t18_7 =>
 condM t18_7
 (resT v3 (M.pure v3))
 (M.bind (bi .sub .none (strip v3) (.int .i64 1)) fun t9_8 =>
 u1a v0 v2 t9_8))
 (M.pure (.int .i64 0)) :=
 (u0w P X _ _ _).trans (by kernel_rfl)
theorem u6n (a0 : PV) : C u2e [a0] =
 trunc (M.bind (lnL (strip a0)) fun t5_0 =>
 u1a a0 (.int .i64 0) t5_0) := by
 rw [C, u0i _ _ rfl]; kernel_rfl
theorem u3w (a0 : PV) : C u1o [a0] =
 trunc (M.bind (bi .lss .none (strip a0) (.int .u8 128)) fun t5_0 =>
 condM t5_0
 (M.pure (.int .i64 1))
 (M.bind (bi .geq .none (strip a0) (.int .u8 194)) fun t8_1 =>
 M.bind (gd (strip t8_1) true (M.pure (strip a0))) fun t10_2 =>
 M.bind (gd (strip t8_1) true (bi .leq .none t10_2 (.int .u8 223))) fun t11_3 =>
 M.bind (pick (strip t8_1) t11_3 (.bool false)) fun t12_4 =>
 condM t12_4
 (M.pure (.int .i64 2))
 (M.bind (bi .geq .none (strip a0) (.int .u8 224)) fun t15_5 =>
 M.bind (gd (strip t15_5) true (M.pure (strip a0))) fun t17_6 =>
 M.bind (gd (strip t15_5) true (bi .leq .none t17_6 (.int .u8 239))) fun t18_7 =>
 M.bind (pick (strip t15_5) t18_7 (.bool false)) fun t19_8 =>
 condM t19_8
 (M.pure (.int .i64 3))
 (M.bind (bi .geq .none (strip a0) (.int .u8 240)) fun t22_9 =>
 M.bind (gd (strip t22_9) true (M.pure (strip a0))) fun t24_10 =>
 M.bind (gd (strip t22_9) true (bi .leq .none t24_10 (.int .u8 244))) fun t25_11 =>
 M.bind (pick (strip t22_9) t25_11 (.bool false)) fun t26_12 =>
 condM t26_12
 (M.pure (.int .i64 4))
 (M.pure (.int .i64 0)))))) := by
 rw [C, u0i _ _ rfl]; kernel_rfl
noncomputable def u02 (v2 v6 v7 v8 : PV) : M PV := atP P X u14 [1, 1, 1] (mkEnv 28 0 [(2, v2), (6, v6), (7, v7), (8, v8)])
theorem u2t (v2 v6 v7 v8 : PV) : u02 v2 v6 v7 v8 =
 M.bind (bi .geq .none (strip v2) (strip v7)) fun t22_0 =>
 M.bind (gd (strip t22_0) true (M.pure (strip v2))) fun t24_1 =>
 M.bind (gd (strip t22_0) true (M.pure (strip v8))) fun t25_2 =>
 M.bind (gd (strip t22_0) true (bi .leq .none t24_1 t25_2)) fun t26_3 =>
 M.bind (pick (strip t22_0) t26_3 (.bool false)) fun t27_4 =>
 resT t27_4 (M.pure t27_4) :=
 (u0w P X _ _ _).trans (by kernel_rfl)
theorem u3u (a0 a1 a2 : PV) : C u14 [a0, a1, a2] =
 trunc (M.bind (bi .eql .none (strip a1) (.int .i64 1)) fun t10_0 =>
 condM t10_0
 (M.bind (bi .eql .none (strip a0) (.int .u8 224)) fun t13_1 =>
 condM t13_1
 (u02 a2 (.bool false) (.int .u8 160) (.int .u8 191))
 (M.bind (bi .eql .none (strip a0) (.int .u8 237)) fun t15_2 =>
 condM t15_2
 (u02 a2 (.bool false) (.int .u8 128) (.int .u8 159))
 (M.bind (bi .eql .none (strip a0) (.int .u8 240)) fun t17_3 =>
 condM t17_3
 (u02 a2 (.bool false) (.int .u8 144) (.int .u8 191))
 (M.bind (bi .eql .none (strip a0) (.int .u8 244)) fun t19_4 =>
 condM t19_4
 (u02 a2 (.bool false) (.int .u8 128) (.int .u8 143))
 (u02 a2 (.bool false) (.int .u8 128) (.int .u8 191))))))
 (u02 a2 (.bool false) (.int .u8 128) (.int .u8 191))) := by
 rw [C, u0i _ _ rfl]; kernel_rfl
theorem u49 (a0 a1 a2 a3 : PV) : C u54 [a0, a1, a2, a3] =
 trunc (M.bind (ld none false a0) fun t5_0 =>
 M.bind (ld none false a1) fun t6_1 =>
 M.bind (ld none false a0) fun t7_2 =>
 M.bind (lnL t7_2) fun t8_3 =>
 M.bind (C u1l [(strip t5_0), (strip t6_1), (strip t8_3)]) fun t9_4 =>
 M.bind (ex 0 (strip t9_4)) fun t10_5 =>
 M.bind (ex 1 (tupDrop 0 (strip t9_4))) fun t11_6 =>
 M.bind (st 1 true a2 t10_5) fun _ =>
 M.bind (st 1 true a3 t11_6) fun _ =>
 M.pure (.tup [])) := by
 rw [C, u0i _ _ rfl]; kernel_rfl
noncomputable def u2m (v0 v1 v2 v6 v7 v8 v9 : PV) : M PV := atP P X u1l [1, 1, 1] (mkEnv 68 0 [(0, v0), (1, v1), (2, v2), (6, v6), (7, v7), (8, v8), (9, v9)])
noncomputable def u2h (v0 v2 v6 v7 v8 v9 : PV) : M PV := atP P X u1l [1, 1, 1, 1] (mkEnv 68 0 [(0, v0), (2, v2), (6, v6), (7, v7), (8, v8), (9, v9)])
noncomputable def u28 (v0 v6 v7 v8 v9 : PV) : M PV := atP P X u1l [1, 1, 1, 1, 1] (mkEnv 68 0 [(0, v0), (6, v6), (7, v7), (8, v8), (9, v9)])
noncomputable def u1q (v6 v7 v8 v9 v11 : PV) : M PV := atP P X u1l [1, 1, 1, 1, 1, 1, 1] (mkEnv 68 0 [(6, v6), (7, v7), (8, v8), (9, v9), (11, v11)])
theorem u1b (v0 v1 v2 v6 v7 v8 v9 : PV) : u2m v0 v1 v2 v6 v7 v8 v9 =
 M.bind (bi .gtr .none (strip v8) (.int .u32 65536)) fun t29_0 =>
 condM t29_0
 (M.bind (bd [(.int .i64 0), (.int .i64 0)] [(0, 1, (strip v1)), (1, 1, (.int .i64 2))]) fun t31_1 =>
 M.bind (mi u1f t31_1) fun t32_2 =>
 M.bind (pn t32_2) fun _ =>
 u2h v0 v2 v6 v7 v8 v9)
 (u2h v0 v2 v6 v7 v8 v9) :=
 (u0w P X _ _ _).trans (by kernel_rfl)
theorem u1p (v0 v2 v6 v7 v8 v9 : PV) : u2h v0 v2 v6 v7 v8 v9 =
 M.bind (bi .sub .none (strip v2) (strip v9)) fun t35_0 =>
 M.bind (cv (.int .u64) true t35_0) fun t36_1 =>
 M.bind (cv (.int .u64) true (strip v8)) fun t38_2 =>
 M.bind (bi .lss .none t36_1 t38_2) fun t39_3 =>
 condM t39_3
 (M.bind (bd [(.int .i64 0), (.int .i64 0)] [(0, 1, (strip v2)), (1, 1, (.int .i64 3))]) fun t41_4 =>
 M.bind (mi u1f t41_4) fun t42_5 =>
 M.bind (pn t42_5) fun _ =>
 u28 v0 v6 v7 v8 v9)
 (u28 v0 v6 v7 v8 v9) :=
 (u0w P X _ _ _).trans (by kernel_rfl)
theorem u2k (v0 v6 v7 v8 v9 : PV) : u28 v0 v6 v7 v8 v9 =
 M.bind (cv (.int .i64) true (strip v8)) fun t47_0 =>
 M.bind (bi .add .none (strip v9) t47_0) fun t48_1 =>
 M.bind (slL 1 (strip v0) (some (strip v9)) (some t48_1)) fun t49_2 =>
 M.bind (C u2r [(strip (strip t49_2))]) fun t52_3 =>
 M.bind (ex 0 (strip t52_3)) fun t53_4 =>
 M.bind (ex 1 (tupDrop 0 (strip t52_3))) fun t54_5 =>
 M.bind (un .not (strip t54_5)) fun t56_6 =>
 condM t56_6
 (M.bind (bi .add .none (strip v9) (strip t53_4)) fun t59_7 =>
 M.bind (bd [(.int .i64 0), (.int .i64 0)] [(0, 1, t59_7), (1, 1, (.int .i64 21))]) fun t60_8 =>
 M.bind (mi u1f t60_8) fun t61_9 =>
 M.bind (pn t61_9) fun _ =>
 u1q v6 v7 v8 v9 t49_2)
 (u1q v6 v7 v8 v9 t49_2) :=
 (u0w P X _ _ _).trans (by kernel_rfl)
theorem u29 (v6 v7 v8 v9 v11 : PV) : u1q v6 v7 v8 v9 v11 =
 M.bind (cv .bytesToStr true (strip v11)) fun t63_0 =>
 M.bind (cv (.int .i64) true (strip v8)) fun t66_1 =>
 M.bind (bi .add .none (strip v9) t66_1) fun t67_2 =>
 resT t63_0 (resT t67_2 (M.pure (.tup [t63_0, t67_2]))) :=
 (u0w P X _ _ _).trans (by kernel_rfl)
theorem u8z (a0 a1 a2 : PV) : C u1l [a0, a1, a2] =
 trunc (M.bind (C u8w [(strip (strip a0)), (strip (strip a1)), (strip (strip a2))]) fun t18_0 =>
 M.bind (ex 0 (strip t18_0)) fun t19_1 =>
 M.bind (ex 1 (tupDrop 0 (strip t18_0))) fun t20_2 =>
 M.bind (ex 2 (tupDrop 1 (tupDrop 0 (strip t18_0)))) fun t21_3 =>
 M.bind (bi .neq .none (strip t21_3) (.int .i64 0)) fun t23_4 =>
 condM t23_4
 (M.bind (bd [(.int .i64 0), (.int .i64 0)] [(0, 1, (strip t20_2)), (1, 1, (strip t21_3))]) fun t26_5 =>
 M.bind (mi u1f t26_5) fun t27_6 =>
 M.bind (pn t27_6) fun _ =>
 u2m a0 a1 a2 (.str ⟨#[]⟩) (.int .i64 0) t19_1 t20_2)
 (u2m a0 a1 a2 (.str ⟨#[]⟩) (.int .i64 0) t19_1 t20_2)) := by
 rw [C, u0i _ _ rfl]; kernel_rfl
noncomputable def u03 (v0 v2 : PV) : M PV := atP P X u0j [1, 0, 0] (mkEnv 169 0 [(0, v0), (2, v2)])
noncomputable def u0g (v0 v2 v3 : PV) : M PV := atP P X u0j [1, 0, 0, 0, 1, 0, 1, 0, 1, 0, 1, 1] (mkEnv 169 0 [(0, v0), (2, v2), (3, v3)])
noncomputable def u0a (v0 v2 v3 : PV) : M PV := atP P X u0j [1, 0, 0, 0, 1, 0, 1, 0, 1, 0, 1, 0, 1, 0, 1, 1, 0, 1, 0] (mkEnv 169 0 [(0, v0), (2, v2), (3, v3)])
theorem u0e (v0 v2 : PV) : u03 v0 v2 =
 M.bind (lnS (strip v0)) fun t8_0 =>
 M.bind (bi .gtr .none t8_0 (.int .i64 0)) fun t9_1 =>
 condM t9_1
 (M.bind (ixS (strip v0) (.int .i64 0)) fun t11_2 =>
 M.bind (bi .lss .none (strip t11_2) (.int .u8 128)) fun t13_3 =>
 condM t13_3
 (M.bind (slS (strip v0) (some (.int .i64 1)) none) fun t15_4 =>
 M.bind (lnS (strip t15_4)) fun t17_5 =>
 M.bind (bi .gtr .none t17_5 (.int .i64 8)) fun t18_6 =>
 M.bind (gd (strip t18_6) true (M.pure (strip t15_4))) fun t20_7 =>
 M.bind (gd (strip t18_6) true (C u08 [(strip t20_7)])) fun t21_8 =>
 M.bind (gd (strip t18_6) true (bi .and .none t21_8 (.int .u64 9259542123273814144))) fun t22_9 =>
 M.bind (gd (strip t18_6) true (bi .eql .none t22_9 (.int .u64 0))) fun t23_10 =>
 M.bind (pick (strip t18_6) t23_10 (.bool false)) fun t24_11 =>
 condM t24_11
 (M.bind (slS (strip t15_4) (some (.int .i64 8)) none) fun t26_12 =>
 nb (lnS (strip t26_12)) fun t28_13 =>
 nb (bi .gtr .none t28_13 (.int .i64 16)) fun t29_14 =>
 nb (gd (strip t29_14) true (M.pure (strip t26_12))) fun t31_15 =>
 nb (gd (strip t29_14) true (C u08 [(strip t31_15)])) fun t32_16 =>
 nb (gd (strip t29_14) true (M.pure (strip t26_12))) fun t33_17 =>
 nb (gd (strip t29_14) true (slS t33_17 (some (.int .i64 8)) none)) fun t34_18 =>
 nb (gd (strip t29_14) true (C u08 [(strip t34_18)])) fun t35_19 =>
 nb (gd (strip t29_14) true (bi .or .none t32_16 t35_19)) fun t36_20 =>
 nb (gd (strip t29_14) true (bi .and .none t36_20 (.int .u64 9259542123273814144))) fun t37_21 =>
 nb (gd (strip t29_14) true (bi .eql .none t37_21 (.int .u64 0))) fun t38_22 =>
 nb (pick (strip t29_14) t38_22 (.bool false)) fun t39_23 =>
 condM t39_23
 (M.bind (slS (strip t26_12) (some (.int .i64 16)) none) fun t41_24 =>
 u0a t41_24 v2 t11_2)
 (u0g t26_12 v2 t11_2))
 (u0g t15_4 v2 t11_2))
 (M.bind (iaA 256 1 (GT 0) (strip t11_2)) fun t66_25 =>
 M.bind (ld none true t66_25) fun t67_26 =>
 M.bind (bi .and .none (strip t67_26) (.int .u8 7)) fun t69_27 =>
 M.bind (cv (.int .i64) true t69_27) fun t70_28 =>
 M.bind (bi .shr .none (strip t67_26) (.int .u64 4)) fun t72_29 =>
 M.bind (iaA 16 2 (GT 1) t72_29) fun t73_30 =>
 M.bind (ld (some 2) true t73_30) fun t74_31 =>
 M.bind (al [(.int .u8 0), (.int .u8 0)]) fun t6_32 =>
 M.bind (st 2 true t6_32 t74_31) fun _ =>
 M.bind (bi .eql .none (strip t70_28) (.int .i64 2)) fun t77_34 =>
 condM t77_34
 (nb (lnS (strip v0)) fun t79_35 =>
 nb (bi .lss .none t79_35 (.int .i64 2)) fun t80_36 =>
 nb (gd (strip t80_36) false (M.pure (strip v0))) fun t82_37 =>
 nb (gd (strip t80_36) false (ixS t82_37 (.int .i64 1))) fun t83_38 =>
 nb (gd (strip t80_36) false (fa 0 t6_32)) fun t84_39 =>
 nb (gd (strip t80_36) false (ld none false t84_39)) fun t85_40 =>
 nb (gd (strip t80_36) false (bi .lss .none t83_38 t85_40)) fun t86_41 =>
 nb (pick (strip t80_36) (.bool true) t86_41) fun t87_42 =>
 nb (gd (strip t87_42) false (fa 1 t6_32)) fun t89_43 =>
 nb (gd (strip t87_42) false (ld none false t89_43)) fun t90_44 =>
 nb (gd (strip t87_42) false (M.pure (strip v0))) fun t91_45 =>
 nb (gd (strip t87_42) false (ixS t91_45 (.int .i64 1))) fun t92_46 =>
 nb (gd (strip t87_42) false (bi .lss .none t90_44 t92_46)) fun t93_47 =>
 nb (pick (strip t87_42) (.bool true) t93_47) fun t94_48 =>
 condM t94_48
 (M.pure (.bool false))
 (M.bind (slS (strip v0) (some (.int .i64 2)) none) fun t96_49 =>
 u03 t96_49 v2))
 (M.bind (bi .eql .none (strip t70_28) (.int .i64 3)) fun t98_50 =>
 condM t98_50
 (nb (lnS (strip v0)) fun t100_51 =>
 nb (bi .lss .none t100_51 (.int .i64 3)) fun t101_52 =>
 nb (gd (strip t101_52) false (M.pure (strip v0))) fun t103_53 =>
 nb (gd (strip t101_52) false (ixS t103_53 (.int .i64 1))) fun t104_54 =>
 nb (gd (strip t101_52) false (fa 0 t6_32)) fun t105_55 =>
 nb (gd (strip t101_52) false (ld none false t105_55)) fun t106_56 =>
 nb (gd (strip t101_52) false (bi .lss .none t104_54 t106_56)) fun t107_57 =>
 nb (pick (strip t101_52) (.bool true) t107_57) fun t108_58 =>
 nb (gd (strip t108_58) false (fa 1 t6_32)) fun t110_59 =>
 nb (gd (strip t108_58) false (ld none false t110_59)) fun t111_60 =>
 nb (gd (strip t108_58) false (M.pure (strip v0))) fun t112_61 =>
 nb (gd (strip t108_58) false (ixS t112_61 (.int .i64 1))) fun t113_62 =>
 nb (gd (strip t108_58) false (bi .lss .none t111_60 t113_62)) fun t114_63 =>
 nb (pick (strip t108_58) (.bool true) t114_63) fun t115_64 =>
 nb (gd (strip t115_64) false (M.pure (strip v0))) fun t117_65 =>
 nb (gd (strip t115_64) false (ixS t117_65 (.int .i64 2))) fun t118_66 =>
 nb (gd (strip t115_64) false (bi .lss .none t118_66 (.int .u8 128))) fun t119_67 =>
 nb (pick (strip t115_64) (.bool true) t119_67) fun t120_68 =>
 nb (gd (strip t120_68) false (M.pure (strip v0))) fun t122_69 =>
 nb (gd (strip t120_68) false (ixS t122_69 (.int .i64 2))) fun t123_70 =>
 nb (gd (strip t120_68) false (bi .lss .none (.int .u8 191) t123_70)) fun t124_71 =>
 nb (pick (strip t120_68) (.bool true) t124_71) fun t125_72 =>
 condM t125_72
 (M.pure (.bool false))
 (M.bind (slS (strip v0) (some (.int .i64 3)) none) fun t127_73 =>
 u03 t127_73 v2))
 (M.bind (bi .eql .none (strip t70_28) (.int .i64 4)) fun t129_74 =>
 condM t129_74
 (nb (lnS (strip v0)) fun t131_75 =>
 nb (bi .lss .none t131_75 (.int .i64 4)) fun t132_76 =>
 nb (gd (strip t132_76) false (M.pure (strip v0))) fun t134_77 =>
 nb (gd (strip t132_76) false (ixS t134_77 (.int .i64 1))) fun t135_78 =>
 nb (gd (strip t132_76) false (fa 0 t6_32)) fun t136_79 =>
 nb (gd (strip t132_76) false (ld none false t136_79)) fun t137_80 =>
 nb (gd (strip t132_76) false (bi .lss .none t135_78 t137_80)) fun t138_81 =>
 nb (pick (strip t132_76) (.bool true) t138_81) fun t139_82 =>
 nb (gd (strip t139_82) false (fa 1 t6_32)) fun t141_83 =>
 nb (gd (strip t139_82) false (ld none false t141_83)) fun t142_84 =>
 nb (gd (strip t139_82) false (M.pure (strip v0))) fun t143_85 =>
 nb (gd (strip t139_82) false (ixS t143_85 (.int .i64 1))) fun t144_86 =>
 nb (gd (strip t139_82) false (bi .lss .none t142_84 t144_86)) fun t145_87 =>
 nb (pick (strip t139_82) (.bool true) t145_87) fun t146_88 =>
 nb (gd (strip t146_88) false (M.pure (strip v0))) fun t148_89 =>
 nb (gd (strip t146_88) false (ixS t148_89 (.int .i64 2))) fun t149_90 =>
 nb (gd (strip t146_88) false (bi .lss .none t149_90 (.int .u8 128))) fun t150_91 =>
 nb (pick (strip t146_88) (.bool true) t150_91) fun t151_92 =>
 nb (gd (strip t151_92) false (M.pure (strip v0))) fun t153_93 =>
 nb (gd (strip t151_92) false (ixS t153_93 (.int .i64 2))) fun t154_94 =>
 nb (gd (strip t151_92) false (bi .lss .none (.int .u8 191) t154_94)) fun t155_95 =>
 nb (pick (strip t151_92) (.bool true) t155_95) fun t156_96 =>
 nb (gd (strip t156_96) false (M.pure (strip v0))) fun t158_97 =>
 nb (gd (strip t156_96) false (ixS t158_97 (.int .i64 3))) fun t159_98 =>
 nb (gd (strip t156_96) false (bi .lss .none t159_98 (.int .u8 128))) fun t160_99 =>
 nb (pick (strip t156_96) (.bool true) t160_99) fun t161_100 =>
 nb (gd (strip t161_100) false (M.pure (strip v0))) fun t163_101 =>
 nb (gd (strip t161_100) false (ixS t163_101 (.int .i64 3))) fun t164_102 =>
 nb (gd (strip t161_100) false (bi .lss .none (.int .u8 191) t164_102)) fun t165_103 =>
 nb (pick (strip t161_100) (.bool true) t165_103) fun t166_104 =>
 condM t166_104
 (M.pure (.bool false))
 (M.bind (slS (strip v0) (some (.int .i64 4)) none) fun t168_105 =>
 u03 t168_105 v2))
 (M.pure (.bool false))))))
 (M.pure (.bool true)) :=
 (u0w P X _ _ _).trans (by kernel_rfl)
theorem u05 (v0 v2 v3 : PV) : u0g v0 v2 v3 =
 u03 v0 v2 :=
 (u0w P X _ _ _).trans (by kernel_rfl)
theorem u15 (v0 v2 v3 : PV) : u0a v0 v2 v3 =
 nb (lnS (strip v0)) fun t43_0 =>
 nb (bi .gtr .none t43_0 (.int .i64 32)) fun t44_1 =>
 nb (gd (strip t44_1) true (M.pure (strip v0))) fun t46_2 =>
 nb (gd (strip t44_1) true (C u08 [(strip t46_2)])) fun t47_3 =>
 nb (gd (strip t44_1) true (M.pure (strip v0))) fun t48_4 =>
 nb (gd (strip t44_1) true (slS t48_4 (some (.int .i64 8)) none)) fun t49_5 =>
 nb (gd (strip t44_1) true (C u08 [(strip t49_5)])) fun t50_6 =>
 nb (gd (strip t44_1) true (bi .or .none t47_3 t50_6)) fun t51_7 =>
 nb (gd (strip t44_1) true (M.pure (strip v0))) fun t52_8 =>
 nb (gd (strip t44_1) true (slS t52_8 (some (.int .i64 16)) none)) fun t53_9 =>
 nb (gd (strip t44_1) true (C u08 [(strip t53_9)])) fun t54_10 =>
 nb (gd (strip t44_1) true (M.pure (strip v0))) fun t55_11 =>
 nb (gd (strip t44_1) true (slS t55_11 (some (.int .i64 24)) none)) fun t56_12 =>
 nb (gd (strip t44_1) true (C u08 [(strip t56_12)])) fun t57_13 =>
 nb (gd (strip t44_1) true (bi .or .none t54_10 t57_13)) fun t58_14 =>
 nb (gd (strip t44_1) true (bi .or .none t51_7 t58_14)) fun t59_15 =>
 nb (gd (strip t44_1) true (bi .and .none t59_15 (.int .u64 9259542123273814144))) fun t60_16 =>
 nb (gd (strip t44_1) true (bi .eql .none t60_16 (.int .u64 0))) fun t61_17 =>
 nb (pick (strip t44_1) t61_17 (.bool false)) fun t62_18 =>
 condM t62_18
 (M.bind (slS (strip v0) (some (.int .i64 32)) none) fun t64_19 =>
 u0a t64_19 v2 v3)
 (u0g v0 v2 v3) :=
 (u0w P X _ _ _).trans (by kernel_rfl)
theorem u38 (a0 : PV) : C u0j [a0] =
 trunc (u03 a0 (.bool false)) := by
 rw [C, u0i _ _ rfl]; kernel_rfl
theorem u3c (a0 : PV) : CD none u2u [a0] =
 noPan (trunc (M.bind (M.pure .niliface) fun t2_0 =>
 M.bind (bi .neq .iface (strip t2_0) .niliface) fun t4_1 =>
 condM t4_1
 (M.bind (ta u1f (.agg [(.int .i64 0), (.int .i64 0)]) false (strip t2_0)) fun t6_2 =>
 M.bind (st 2 true a0 t6_2) fun _ =>
 M.pure (.tup []))
 (M.pure (.tup [])))) := by
 rw [CD, ucm]; kernel_rfl
theorem u3g (r : PV) (a0 : PV) : CD (some r) u2u [a0] =
 noPan (trunc (M.bind (M.pure r) fun t2_0 =>
 M.bind (bi .neq .iface (strip t2_0) .niliface) fun t4_1 =>
 condM t4_1
 (M.bind (ta u1f (.agg [(.int .i64 0), (.int .i64 0)]) false (strip t2_0)) fun t6_2 =>
 M.bind (st 2 true a0 t6_2) fun _ =>
 M.pure (.tup []))
 (M.pure (.tup [])))) := by
 rw [CD, ucm]; kernel_rfl
theorem ugz (a0 a1 a2 : PV) : C u8w [a0, a1, a2] =
 trunc (M.bind (C u16 [(strip (strip a0)), (strip (strip a1)), (strip (strip a2)), (.fn u5o [] [])]) fun t12_0 =>
 M.bind (ex 0 t12_0) fun t13_1 =>
 M.bind (ex 1 (tupDrop 0 t12_0)) fun t14_2 =>
 M.bind (ex 2 (tupDrop 1 (tupDrop 0 t12_0))) fun t15_3 =>
 resT t13_1 (resT t14_2 (resT t15_3 (M.pure (.tup [t13_1, t14_2, t15_3]))))) := by
 rw [C, u0i _ _ rfl]; kernel_rfl
noncomputable def u0b (v0 v1 v2 v3 v4 v10 v11 v12 v13 v14 v15 : PV) : M PV := atP P X u0l [1, 1, 1, 1, 0, 1, 0] (mkEnv 91 0 [(0, v0), (1, v1), (2, v2), (3, v3), (4, v4), (10, v10), (11, v11), (12, v12), (13, v13), (14, v14), (15, v15)])
noncomputable def u01 (v0 v1 v2 v3 v4 v10 v11 v12 v13 v14 v15 : PV) : M PV := atP P X u0l [1, 1, 1, 1, 0, 1, 0, 0, 1, 0, 0, 1, 1, 1, 1, 1, 0, 1] (mkEnv 91 0 [(0, v0), (1, v1), (2, v2), (3, v3), (4, v4), (10, v10), (11, v11), (12, v12), (13, v13), (14, v14), (15, v15)])
theorem u2j (v0 v1 v2 v3 v4 v10 v11 v12 v13 v14 v15 : PV) : u0b v0 v1 v2 v3 v4 v10 v11 v12 v13 v14 v15 =
 M.bind (bi .lss .none (strip v15) (strip v13)) fun t27_0 =>
 condM t27_0
 (M.bind (bi .add .none (strip v1) (strip v15)) fun t32_1 =>
 M.bind (bi .geq .none t32_1 (strip v2)) fun t34_2 =>
 condM t34_2
 (resT v2 (M.pure (.tup [(.int .u64 0), v2, (.int .i64 3)])))
 (M.bind (bi .add .none (strip v1) (strip v15)) fun t39_3 =>
 M.bind (iaS 1 (strip v0) t39_3) fun t40_4 =>
 M.bind (ld none true t40_4) fun t41_5 =>
 M.bind (bi .sub .none (strip v13) (.int .i64 1)) fun t44_6 =>
 M.bind (bi .eql .none (strip v15) t44_6) fun t45_7 =>
 M.bind (gd (strip t45_7) true (M.pure (strip t41_5))) fun t47_8 =>
 M.bind (gd (strip t45_7) true (M.pure (strip v3))) fun t48_9 =>
 M.bind (gd (strip t45_7) true (M.pure (strip v15))) fun t49_10 =>
 M.bind (gd (strip t45_7) true (M.pure (strip v4))) fun t50_11 =>
 M.bind (gd (strip t45_7) true (C u24 [(strip t47_8), (strip t48_9), (strip t49_10), (strip t50_11)])) fun t51_12 =>
 M.bind (gd (strip t45_7) true (un .not t51_12)) fun t52_13 =>
 M.bind (pick (strip t45_7) t52_13 (.bool false)) fun t53_14 =>
 condM t53_14
 (M.bind (bi .add .none (strip v1) (strip v15)) fun t56_15 =>
 resT t56_15 (M.pure (.tup [(.int .u64 0), t56_15, (.int .i64 4)])))
 (M.bind (bi .rem .none (strip t41_5) (.int .u8 128)) fun t59_16 =>
 M.bind (cv (.int .u64) true t59_16) fun t60_17 =>
 M.bind (bi .mul .none (.int .i64 7) (strip v15)) fun t62_18 =>
 M.bind (cv (.int .u64) true t62_18) fun t63_19 =>
 M.bind (bi .shl .none t60_17 t63_19) fun t64_20 =>
 M.bind (bi .add .none (strip v14) t64_20) fun t65_21 =>
 M.bind (bi .lss .none (strip t41_5) (.int .u8 128)) fun t67_22 =>
 condM t67_22
 (M.bind (gd (strip (strip v4)) true (M.pure (strip t41_5))) fun t70_23 =>
 M.bind (gd (strip (strip v4)) true (bi .geq .none t70_23 (.int .u8 64))) fun t71_24 =>
 M.bind (pick (strip (strip v4)) t71_24 (.bool false)) fun t72_25 =>
 M.bind (gd (strip t72_25) true (M.pure (strip v15))) fun t74_26 =>
 M.bind (gd (strip t72_25) true (bi .mul .none (.int .i64 7) t74_26)) fun t75_27 =>
 M.bind (gd (strip t72_25) true (bi .add .none t75_27 (.int .i64 7))) fun t76_28 =>
 M.bind (gd (strip t72_25) true (bi .lss .none t76_28 (.int .i64 64))) fun t77_29 =>
 M.bind (pick (strip t72_25) t77_29 (.bool false)) fun t78_30 =>
 condM t78_30
 (M.bind (bi .mul .none (.int .i64 7) (strip v15)) fun t81_31 =>
 M.bind (bi .add .none t81_31 (.int .i64 7)) fun t82_32 =>
 M.bind (cv (.int .u64) true t82_32) fun t83_33 =>
 M.bind (bi .shl .none (.int .u64 1) t83_33) fun t84_34 =>
 M.bind (bi .sub .none (strip t65_21) t84_34) fun t85_35 =>
 u01 v0 v1 v2 v3 v4 v10 v11 v12 v13 t85_35 v15)
 (u01 v0 v1 v2 v3 v4 v10 v11 v12 v13 t65_21 v15))
 (M.bind (bi .add .none (strip v15) (.int .i64 1)) fun t29_36 =>
 u0b v0 v1 v2 v3 v4 v10 v11 v12 v13 t65_21 t29_36))))
 (M.pure (.tup [(.int .u64 0), (.int .i64 0), (.int .i64 4)])) :=
 (u0w P X _ _ _).trans (by kernel_rfl)
theorem u1g (v0 v1 v2 v3 v4 v10 v11 v12 v13 v14 v15 : PV) : u01 v0 v1 v2 v3 v4 v10 v11 v12 v13 v14 v15 =
 M.bind (bi .add .none (strip v1) (strip v15)) fun t89_0 =>
 M.bind (bi .add .none t89_0 (.int .i64 1)) fun t90_1 =>
 resT v14 (resT t90_1 (M.pure (.tup [v14, t90_1, (.int .i64 0)]))) :=
 (u0w P X _ _ _).trans (by kernel_rfl)
theorem u3y (a0 a1 a2 a3 a4 : PV) : C u0l [a0, a1, a2, a3, a4] =
 trunc (M.bind (C u1y [(strip (strip a0)), (strip (strip a1)), (strip (strip a2))]) fun t20_0 =>
 M.bind (un .not t20_0) fun t21_1 =>
 condM t21_1
 (M.pure (.tup [(.int .u64 0), (.int .i64 0), (.int .i64 1)]))
 (M.bind (bi .add .none (strip a3) (.int .i64 6)) fun t23_2 =>
 M.bind (bi .quo .none t23_2 (.int .i64 7)) fun t24_3 =>
 u0b a0 a1 a2 a3 a4 (.int .u64 0) (.int .i64 0) (.int .i64 0) t24_3 (.int .u64 0) (.int .i64 0))) := by
 rw [C, u0i _ _ rfl]; kernel_rfl
theorem u2p (a0 : PV) : C u0y [a0] =
 trunc (M.bind (lnL (strip a0)) fun t14_0 =>
 M.bind (bi .lss .none (strip t14_0) (.int .i64 1)) fun t16_1 =>
 condM t16_1
 (M.pure (.tup [(.int .i32 65533), (.int .i64 0)]))
 (M.bind (iaS 1 (strip a0) (.int .i64 0)) fun t18_2 =>
 M.bind (ld none true t18_2) fun t19_3 =>
 M.bind (iaA 256 1 (GT 0) (strip t19_3)) fun t21_4 =>
 M.bind (ld none true t21_4) fun t22_5 =>
 M.bind (bi .geq .none (strip t22_5) (.int .u8 240)) fun t24_6 =>
 condM t24_6
 (M.bind (cv (.int .i32) true (strip t22_5)) fun t26_7 =>
 M.bind (bi .shl .none t26_7 (.int .u64 31)) fun t27_8 =>
 M.bind (bi .shr .none t27_8 (.int .u64 31)) fun t28_9 =>
 M.bind (iaS 1 (strip a0) (.int .i64 0)) fun t30_10 =>
 M.bind (ld none false t30_10) fun t31_11 =>
 M.bind (cv (.int .i32) true t31_11) fun t32_12 =>
 M.bind (bi .andNot .none t32_12 (strip t28_9)) fun t34_13 =>
 M.bind (bi .and .none (.int .i32 65533) (strip t28_9)) fun t36_14 =>
 M.bind (bi .or .none t34_13 t36_14) fun t37_15 =>
 resT t37_15 (M.pure (.tup [t37_15, (.int .i64 1)])))
 (M.bind (bi .and .none (strip t22_5) (.int .u8 7)) fun t39_16 =>
 M.bind (cv (.int .i64) true t39_16) fun t40_17 =>
 M.bind (bi .shr .none (strip t22_5) (.int .u64 4)) fun t42_18 =>
 M.bind (iaA 16 2 (GT 1) t42_18) fun t43_19 =>
 M.bind (ld (some 2) true t43_19) fun t44_20 =>
 M.bind (al [(.int .u8 0), (.int .u8 0)]) fun t9_21 =>
 M.bind (st 2 true t9_21 t44_20) fun _ =>
 M.bind (bi .lss .none (strip t14_0) (strip t40_17)) fun t47_23 =>
 condM t47_23
 (M.pure (.tup [(.int .i32 65533), (.int .i64 1)]))
 (M.bind (iaS 1 (strip a0) (.int .i64 1)) fun t49_24 =>
 M.bind (ld none true t49_24) fun t50_25 =>
 M.bind (fa 0 t9_21) fun t52_26 =>
 M.bind (ld none false t52_26) fun t53_27 =>
 M.bind (bi .lss .none (strip t50_25) t53_27) fun t54_28 =>
 M.bind (gd (strip t54_28) false (fa 1 t9_21)) fun t56_29 =>
 M.bind (gd (strip t54_28) false (ld none false t56_29)) fun t57_30 =>
 M.bind (gd (strip t54_28) false (M.pure (strip t50_25))) fun t58_31 =>
 M.bind (gd (strip t54_28) false (bi .lss .none t57_30 t58_31)) fun t59_32 =>
 M.bind (pick (strip t54_28) (.bool true) t59_32) fun t60_33 =>
 condM t60_33
 (M.pure (.tup [(.int .i32 65533), (.int .i64 1)]))
 (M.bind (bi .leq .none (strip t40_17) (.int .i64 2)) fun t62_34 =>
 condM t62_34
 (M.bind (bi .and .none (strip t19_3) (.int .u8 31)) fun t64_35 =>
 M.bind (cv (.int .i32) true t64_35) fun t65_36 =>
 M.bind (bi .shl .none t65_36 (.int .u64 6)) fun t66_37 =>
 M.bind (bi .and .none (strip t50_25) (.int .u8 63)) fun t68_38 =>
 M.bind (cv (.int .i32) true t68_38) fun t69_39 =>
 M.bind (bi .or .none t66_37 t69_39) fun t70_40 =>
 resT t70_40 (M.pure (.tup [t70_40, (.int .i64 2)])))
 (M.bind (iaS 1 (strip a0) (.int .i64 2)) fun t72_41 =>
 M.bind (ld none true t72_41) fun t73_42 =>
 M.bind (bi .lss .none (strip t73_42) (.int .u8 128)) fun t75_43 =>
 M.bind (gd (strip t75_43) false (M.pure (strip t73_42))) fun t77_44 =>
 M.bind (gd (strip t75_43) false (bi .lss .none (.int .u8 191) t77_44)) fun t78_45 =>
 M.bind (pick (strip t75_43) (.bool true) t78_45) fun t79_46 =>
 condM t79_46
 (M.pure (.tup [(.int .i32 65533), (.int .i64 1)]))
 (M.bind (bi .leq .none (strip t40_17) (.int .i64 3)) fun t81_47 =>
 condM t81_47
 (M.bind (bi .and .none (strip t19_3) (.int .u8 15)) fun t83_48 =>
 M.bind (cv (.int .i32) true t83_48) fun t84_49 =>
 M.bind (bi .shl .none t84_49 (.int .u64 12)) fun t85_50 =>
 M.bind (bi .and .none (strip t50_25) (.int .u8 63)) fun t87_51 =>
 M.bind (cv (.int .i32) true t87_51) fun t88_52 =>
 M.bind (bi .shl .none t88_52 (.int .u64 6)) fun t89_53 =>
 M.bind (bi .or .none t85_50 t89_53) fun t90_54 =>
 M.bind (bi .and .none (strip t73_42) (.int .u8 63)) fun t92_55 =>
 M.bind (cv (.int .i32) true t92_55) fun t93_56 =>
 M.bind (bi .or .none t90_54 t93_56) fun t94_57 =>
 resT t94_57 (M.pure (.tup [t94_57, (.int .i64 3)])))
 (M.bind (iaS 1 (strip a0) (.int .i64 3)) fun t96_58 =>
 M.bind (ld none true t96_58) fun t97_59 =>
 M.bind (bi .lss .none (strip t97_59) (.int .u8 128)) fun t99_60 =>
 M.bind (gd (strip t99_60) false (M.pure (strip t97_59))) fun t101_61 =>
 M.bind (gd (strip t99_60) false (bi .lss .none (.int .u8 191) t101_61)) fun t102_62 =>
 M.bind (pick (strip t99_60) (.bool true) t102_62) fun t103_63 =>
 condM t103_63
 (M.pure (.tup [(.int .i32 65533), (.int .i64 1)]))
 (M.bind (bi .and .none (strip t19_3) (.int .u8 7)) fun t105_64 =>
 M.bind (cv (.int .i32) true t105_64) fun t106_65 =>
 M.bind (bi .shl .none t106_65 (.int .u64 18)) fun t107_66 =>
 M.bind (bi .and .none (strip t50_25) (.int .u8 63)) fun t109_67 =>
 M.bind (cv (.int .i32) true t109_67) fun t110_68 =>
 M.bind (bi .shl .none t110_68 (.int .u64 12)) fun t111_69 =>
 M.bind (bi .or .none t107_66 t111_69) fun t112_70 =>
 M.bind (bi .and .none (strip t73_42) (.int .u8 63)) fun t114_71 =>
 M.bind (cv (.int .i32) true t114_71) fun t115_72 =>
 M.bind (bi .shl .none t115_72 (.int .u64 6)) fun t116_73 =>
 M.bind (bi .or .none t112_70 t116_73) fun t117_74 =>
 M.bind (bi .and .none (strip t97_59) (.int .u8 63)) fun t119_75 =>
 M.bind (cv (.int .i32) true t119_75) fun t120_76 =>
 M.bind (bi .or .none t117_74 t120_76) fun t121_77 =>
 resT t121_77 (M.pure (.tup [t121_77, (.int .i64 4)]))))))))))) := by
 rw [C, u0i _ _ rfl]; kernel_rfl
end Go.Proofs.YtiamjepnlnjlfaaDoor.Pi.Q
namespace Go.Proofs.YtiamjepnlnjlfaaDoor.Pi.Q
open Go Go.Proofs.YtiamjepnlnjlfaaDoor.Pi
theorem u3i (a0 : PV) : C u1i [a0] =
 trunc (M.bind (lnL (strip a0)) fun t7_0 =>
 M.bind (bi .eql .none (strip t7_0) (.int .i64 0)) fun t9_1 =>
 condM t9_1
 (M.pure (.bool false))
 (M.bind (iaS 1 (strip a0) (.int .i64 0)) fun t11_2 =>
 M.bind (ld none false t11_2) fun t12_3 =>
 M.bind (iaA 256 1 (GT 0) t12_3) fun t13_4 =>
 M.bind (ld none true t13_4) fun t14_5 =>
 M.bind (bi .and .none (strip t14_5) (.int .u8 7)) fun t17_6 =>
 M.bind (cv (.int .i64) true t17_6) fun t18_7 =>
 M.bind (bi .geq .none (strip t7_0) t18_7) fun t19_8 =>
 condM t19_8
 (M.pure (.bool true))
 (M.bind (bi .shr .none (strip t14_5) (.int .u64 4)) fun t21_9 =>
 M.bind (iaA 16 2 (GT 1) t21_9) fun t22_10 =>
 M.bind (ld (some 2) true t22_10) fun t23_11 =>
 M.bind (al [(.int .u8 0), (.int .u8 0)]) fun t5_12 =>
 M.bind (st 2 true t5_12 t23_11) fun _ =>
 nb (bi .gtr .none (strip t7_0) (.int .i64 1)) fun t25_14 =>
 nb (gd (strip t25_14) true (M.pure (strip a0))) fun t27_15 =>
 nb (gd (strip t25_14) true (iaS 1 t27_15 (.int .i64 1))) fun t28_16 =>
 nb (gd (strip t25_14) true (ld none false t28_16)) fun t29_17 =>
 nb (gd (strip t25_14) true (fa 0 t5_12)) fun t30_18 =>
 nb (gd (strip t25_14) true (ld none false t30_18)) fun t31_19 =>
 nb (gd (strip t25_14) true (bi .lss .none t29_17 t31_19)) fun t32_20 =>
 nb (gd (strip t25_14) true (M.pure (strip t32_20))) fun t33_21 =>
 nb (gd t33_21 false (fa 1 t5_12)) fun t34_22 =>
 nb (gd t33_21 false (ld none false t34_22)) fun t35_23 =>
 nb (gd t33_21 false (M.pure (strip a0))) fun t36_24 =>
 nb (gd t33_21 false (iaS 1 t36_24 (.int .i64 1))) fun t37_25 =>
 nb (gd t33_21 false (ld none false t37_25)) fun t38_26 =>
 nb (gd t33_21 false (bi .lss .none t35_23 t38_26)) fun t39_27 =>
 nb (gd (strip t25_14) true (pick t33_21 (.bool true) t39_27)) fun t40_28 =>
 nb (pick (strip t25_14) t40_28 (.bool false)) fun t41_29 =>
 condM t41_29
 (M.pure (.bool true))
 (M.bind (bi .gtr .none (strip t7_0) (.int .i64 2)) fun t43_30 =>
 M.bind (gd (strip t43_30) true (M.pure (strip a0))) fun t45_31 =>
 M.bind (gd (strip t43_30) true (iaS 1 t45_31 (.int .i64 2))) fun t46_32 =>
 M.bind (gd (strip t43_30) true (ld none false t46_32)) fun t47_33 =>
 M.bind (gd (strip t43_30) true (bi .lss .none t47_33 (.int .u8 128))) fun t48_34 =>
 M.bind (gd (strip t43_30) true (M.pure (strip t48_34))) fun t49_35 =>
 M.bind (gd t49_35 false (M.pure (strip a0))) fun t50_36 =>
 M.bind (gd t49_35 false (iaS 1 t50_36 (.int .i64 2))) fun t51_37 =>
 M.bind (gd t49_35 false (ld none false t51_37)) fun t52_38 =>
 M.bind (gd t49_35 false (bi .lss .none (.int .u8 191) t52_38)) fun t53_39 =>
 M.bind (gd (strip t43_30) true (pick t49_35 (.bool true) t53_39)) fun t54_40 =>
 M.bind (pick (strip t43_30) t54_40 (.bool false)) fun t55_41 =>
 condM t55_41
 (M.pure (.bool true))
 (M.pure (.bool false)))))) := by
 rw [C, u0i _ _ rfl]; kernel_rfl
theorem u30 (a0 : PV) : C u08 [a0] =
 trunc (nb (ixS (strip a0) (.int .i64 0)) fun t22_0 =>
 nb (cv (.int .u64) true t22_0) fun t23_1 =>
 nb (ixS (strip a0) (.int .i64 1)) fun t25_2 =>
 nb (cv (.int .u64) true t25_2) fun t26_3 =>
 nb (bi .shl .none t26_3 (.int .u64 8)) fun t27_4 =>
 nb (bi .or .none t23_1 t27_4) fun t28_5 =>
 nb (ixS (strip a0) (.int .i64 2)) fun t30_6 =>
 nb (cv (.int .u64) true t30_6) fun t31_7 =>
 nb (bi .shl .none t31_7 (.int .u64 16)) fun t32_8 =>
 nb (bi .or .none t28_5 t32_8) fun t33_9 =>
 nb (ixS (strip a0) (.int .i64 3)) fun t35_10 =>
 nb (cv (.int .u64) true t35_10) fun t36_11 =>
 nb (bi .shl .none t36_11 (.int .u64 24)) fun t37_12 =>
 nb (bi .or .none t33_9 t37_12) fun t38_13 =>
 nb (ixS (strip a0) (.int .i64 4)) fun t40_14 =>
 nb (cv (.int .u64) true t40_14) fun t41_15 =>
 nb (bi .shl .none t41_15 (.int .u64 32)) fun t42_16 =>
 nb (bi .or .none t38_13 t42_16) fun t43_17 =>
 nb (ixS (strip a0) (.int .i64 5)) fun t45_18 =>
 nb (cv (.int .u64) true t45_18) fun t46_19 =>
 nb (bi .shl .none t46_19 (.int .u64 40)) fun t47_20 =>
 nb (bi .or .none t43_17 t47_20) fun t48_21 =>
 nb (ixS (strip a0) (.int .i64 6)) fun t50_22 =>
 nb (cv (.int .u64) true t50_22) fun t51_23 =>
 nb (bi .shl .none t51_23 (.int .u64 48)) fun t52_24 =>
 nb (bi .or .none t48_21 t52_24) fun t53_25 =>
 nb (ixS (strip a0) (.int .i64 7)) fun t55_26 =>
 nb (cv (.int .u64) true t55_26) fun t56_27 =>
 nb (bi .shl .none t56_27 (.int .u64 56)) fun t57_28 =>
 nb (bi .or .none t53_25 t57_28) fun t58_29 =>
 resT t58_29 (M.pure t58_29)) := by
 rw [C, u0i _ _ rfl]; kernel_rfl
theorem u33 (a0 a1 a2 a3 : PV) : C u16 [a0, a1, a2, a3] =
 trunc (M.bind (C u3d [(strip (strip a0)), (strip (strip a1)), (strip (strip a2))]) fun t19_0 =>
 M.bind (ex 0 (strip t19_0)) fun t20_1 =>
 M.bind (ex 1 (tupDrop 0 (strip t19_0))) fun t21_2 =>
 M.bind (al [(.slice false true 0 []), (.int .i64 0), (.int .i64 0)]) fun t11_3 =>
 M.bind (st 3 true t11_3 t20_1) fun _ =>
 M.bind (bi .neq .none (strip t21_2) (.int .i64 0)) fun t23_5 =>
 condM t23_5
 (resT t21_2 (M.pure (.tup [(.int .u32 0), (.int .i64 0), t21_2])))
 (M.bind (ld (some 3) false t11_3) fun t27_6 =>
 M.bind (callV P C (strip a3) [(strip t27_6)]) fun t28_7 =>
 M.bind (ex 0 (strip t28_7)) fun t29_8 =>
 M.bind (ex 1 (tupDrop 0 (strip t28_7))) fun t30_9 =>
 M.bind (ex 2 (tupDrop 1 (tupDrop 0 (strip t28_7)))) fun t31_10 =>
 M.bind (cv (.int .u32) true (strip t29_8)) fun t33_11 =>
 resT t33_11 (resT t30_9 (resT t31_10 (M.pure (.tup [t33_11, t30_9, t31_10])))))) := by
 rw [C, u0i _ _ rfl]; kernel_rfl
theorem uh0 (a0 : PV) : C u5o [a0] =
 trunc (M.bind (bx 3 a0) fun t1_0 =>
 M.bind (ld (some 3) false t1_0) fun t5_1 =>
 M.bind (C u0v [(strip t5_1), (.int .i64 32)]) fun t6_2 =>
 M.bind (ex 0 t6_2) fun t7_3 =>
 M.bind (ex 1 (tupDrop 0 t6_2)) fun t8_4 =>
 M.bind (ex 2 (tupDrop 1 (tupDrop 0 t6_2))) fun t9_5 =>
 resT t7_3 (resT t8_4 (resT t9_5 (M.pure (.tup [t7_3, t8_4, t9_5]))))) := by
 rw [C, u0i _ _ rfl]; kernel_rfl
theorem u40 (a0 a1 a2 : PV) : C u1y [a0, a1, a2] =
 trunc (M.bind (bi .geq .none (strip a1) (.int .i64 0)) fun t8_0 =>
 M.bind (gd (strip t8_0) true (M.pure (strip a2))) fun t10_1 =>
 M.bind (gd (strip t8_0) true (M.pure (strip a0))) fun t11_2 =>
 M.bind (gd (strip t8_0) true (lnL t11_2)) fun t12_3 =>
 M.bind (gd (strip t8_0) true (bi .leq .none t10_1 t12_3)) fun t13_4 =>
 M.bind (pick (strip t8_0) t13_4 (.bool false)) fun t14_5 =>
 M.bind (gd (strip t14_5) true (M.pure (strip a1))) fun t16_6 =>
 M.bind (gd (strip t14_5) true (M.pure (strip a2))) fun t17_7 =>
 M.bind (gd (strip t14_5) true (bi .leq .none t16_6 t17_7)) fun t18_8 =>
 M.bind (pick (strip t14_5) t18_8 (.bool false)) fun t19_9 =>
 resT t19_9 (M.pure t19_9)) := by
 rw [C, u0i _ _ rfl]; kernel_rfl
theorem u4t (a0 a1 a2 a3 : PV) : C u24 [a0, a1, a2, a3] =
 trunc (M.bind (bi .mul .none (.int .i64 7) (strip a2)) fun t13_0 =>
 M.bind (bi .sub .none (strip a1) t13_0) fun t14_1 =>
 M.bind (bi .geq .none (strip a0) (.int .u8 128)) fun t16_2 =>
 condM t16_2
 (M.pure (.bool false))
 (M.bind (cv (.int .i64) true (strip a0)) fun t18_3 =>
 M.bind (cv (.int .u64) true (strip t14_1)) fun t20_4 =>
 M.bind (bi .shr .none t18_3 t20_4) fun t21_5 =>
 M.bind (un .not (strip a3)) fun t23_6 =>
 condM t23_6
 (M.bind (bi .eql .none (strip t21_5) (.int .i64 0)) fun t25_7 =>
 resT t25_7 (M.pure t25_7))
 (M.bind (cv (.int .i64) true (strip a0)) fun t27_8 =>
 M.bind (bi .sub .none (strip t14_1) (.int .i64 1)) fun t29_9 =>
 M.bind (cv (.int .u64) true t29_9) fun t30_10 =>
 M.bind (bi .shr .none t27_8 t30_10) fun t31_11 =>
 M.bind (bi .eql .none (strip t31_11) (.int .i64 0)) fun t33_12 =>
 M.bind (gd (strip t33_12) false (M.pure (strip t31_11))) fun t35_13 =>
 M.bind (gd (strip t33_12) false (M.pure (strip t14_1))) fun t36_14 =>
 M.bind (gd (strip t33_12) false (bi .sub .none (.int .i64 8) t36_14)) fun t37_15 =>
 M.bind (gd (strip t33_12) false (cv (.int .u64) true t37_15)) fun t38_16 =>
 M.bind (gd (strip t33_12) false (bi .shl .none (.int .i64 1) t38_16)) fun t39_17 =>
 M.bind (gd (strip t33_12) false (bi .sub .none t39_17 (.int .i64 1))) fun t40_18 =>
 M.bind (gd (strip t33_12) false (bi .eql .none t35_13 t40_18)) fun t41_19 =>
 M.bind (pick (strip t33_12) (.bool true) t41_19) fun t42_20 =>
 resT t42_20 (M.pure t42_20)))) := by
 rw [C, u0i _ _ rfl]; kernel_rfl
theorem uac (a0 a1 a2 : PV) : C u3d [a0, a1, a2] =
 trunc (M.bind (al [(.slice false true 0 []), (.int .i64 0), (.int .i64 0)]) fun t6_0 =>
 M.bind (bi .lss .none (strip a1) (.int .i64 0)) fun t9_1 =>
 M.bind (gd (strip t9_1) false (M.pure (strip a2))) fun t11_2 =>
 M.bind (gd (strip t9_1) false (M.pure (strip a0))) fun t12_3 =>
 M.bind (gd (strip t9_1) false (lnL t12_3)) fun t13_4 =>
 M.bind (gd (strip t9_1) false (bi .gtr .none t11_2 t13_4)) fun t14_5 =>
 M.bind (pick (strip t9_1) (.bool true) t14_5) fun t15_6 =>
 M.bind (gd (strip t15_6) false (M.pure (strip a1))) fun t17_7 =>
 M.bind (gd (strip t15_6) false (M.pure (strip a2))) fun t18_8 =>
 M.bind (gd (strip t15_6) false (bi .gtr .none t17_7 t18_8)) fun t19_9 =>
 M.bind (pick (strip t15_6) (.bool true) t19_9) fun t20_10 =>
 condM t20_10
 (M.bind (bd [(.slice false true 0 []), (.int .i64 0), (.int .i64 0)] []) fun t21_11 =>
 M.bind (st 3 true t6_0 t21_11) fun _ =>
 M.bind (ld (some 3) true t6_0) fun t0_13 => guardM (!isTup t0_13) (M.pure (.tup [t0_13, (.int .i64 1)])))
 (M.bind (bd [(.slice false true 0 []), (.int .i64 0), (.int .i64 0)] [(0, 1, (strip a0)), (1, 1, (strip a1)), (2, 1, (strip a2))]) fun t25_14 =>
 M.bind (st 3 true t6_0 t25_14) fun _ =>
 M.bind (ld (some 3) true t6_0) fun t0_16 => guardM (!isTup t0_16) (M.pure (.tup [t0_16, (.int .i64 0)])))) := by
 rw [C, u0i _ _ rfl]; kernel_rfl
noncomputable def u0d (v1 v2 v4 v5 v6 v7 v8 v9 : PV) : M PV := atP P X u0v [1, 1, 1, 0] (mkEnv 53 0 [(1, v1), (2, v2), (4, v4), (5, v5), (6, v6), (7, v7), (8, v8), (9, v9)])
theorem u2w (v1 v2 v4 v5 v6 v7 v8 v9 : PV) : u0d v1 v2 v4 v5 v6 v7 v8 v9 =
 M.bind (fa 2 v2) fun t17_0 =>
 M.bind (ld none false t17_0) fun t18_1 =>
 M.bind (bi .geq .none (strip v9) t18_1) fun t19_2 =>
 condM t19_2
 (nb (fa 2 v2) fun t20_3 =>
 nb (ld none true t20_3) fun t21_4 =>
 resT t21_4 (M.pure (.tup [(.int .u64 0), t21_4, (.int .i64 3)])))
 (M.bind (fa 0 v2) fun t22_5 =>
 M.bind (ld none false t22_5) fun t23_6 =>
 M.bind (iaS 1 t23_6 (strip v9)) fun t25_7 =>
 M.bind (ld none true t25_7) fun t26_8 =>
 M.bind (bi .sub .none (strip v1) (strip v8)) fun t29_9 =>
 M.bind (bi .lss .none (strip t29_9) (.int .i64 7)) fun t31_10 =>
 M.bind (gd (strip t31_10) true (M.pure (strip t26_8))) fun t33_11 =>
 M.bind (gd (strip t31_10) true (M.pure (strip t29_9))) fun t34_12 =>
 M.bind (gd (strip t31_10) true (bi .shr .none t33_11 t34_12)) fun t35_13 =>
 M.bind (gd (strip t31_10) true (bi .neq .none t35_13 (.int .u8 0))) fun t36_14 =>
 M.bind (pick (strip t31_10) t36_14 (.bool false)) fun t37_15 =>
 condM t37_15
 (resT v9 (M.pure (.tup [(.int .u64 0), v9, (.int .i64 4)])))
 (M.bind (bi .and .none (strip t26_8) (.int .u8 127)) fun t41_16 =>
 M.bind (cv (.int .u64) true t41_16) fun t42_17 =>
 M.bind (bi .shl .none t42_17 (strip v8)) fun t44_18 =>
 M.bind (bi .or .none (strip v7) t44_18) fun t45_19 =>
 M.bind (bi .lss .none (strip t26_8) (.int .u8 128)) fun t47_20 =>
 condM t47_20
 (M.bind (bi .add .none (strip v9) (.int .i64 1)) fun t50_21 =>
 resT t45_19 (resT t50_21 (M.pure (.tup [t45_19, t50_21, (.int .i64 0)]))))
 (M.bind (bi .add .none (strip v8) (.int .i64 7)) fun t52_22 =>
 M.bind (bi .add .none (strip v9) (.int .i64 1)) fun t15_23 =>
 u0d v1 v2 v4 v5 v6 t45_19 t52_22 t15_23))) :=
 (u0w P X _ _ _).trans (by kernel_rfl)
theorem u3x (a0 a1 : PV) : C u0v [a0, a1] =
 trunc (M.bind (bx 3 a0) fun t2_0 =>
 M.bind (fa 1 t2_0) fun t12_1 =>
 M.bind (ld none true t12_1) fun t13_2 =>
 u0d a1 t2_0 (.int .u64 0) (.int .i64 0) (.int .i64 0) (.int .u64 0) (.int .i64 0) t13_2) := by
 rw [C, u0i _ _ rfl]; kernel_rfl
end Go.Proofs.YtiamjepnlnjlfaaDoor.Pi.Q
namespace Go.Proofs.YtiamjepnlnjlfaaDoor.Pi.Q
open Go Go.Proofs.YtiamjepnlnjlfaaDoor.Pi
attribute [local congr] ite_congr
def retU : Rs Nat → PV
  | .ok n p => .tup [.int .u64 n, .int .i64 p, .int .i64 0]
  | .err p e => .tup [.int .u64 0, .int .i64 p, .int .i64 e]
theorem dig_lt {B s x : Nat} (hB : B ≤ 64) (hi : s < B) (hx : x < 2 ^ (B - s)) : x * 2 ^ s < 2 ^ 64 := by
  have h1 : (x + 1) * 2 ^ s ≤ 2 ^ (B - s) * 2 ^ s := Nat.mul_le_mul_right _ hx
  have h2 : 2 ^ (B - s) * 2 ^ s = 2 ^ B := by rw [← Nat.pow_add, Nat.sub_add_cancel (by omega)]
  have h3 : 2 ^ B ≤ 2 ^ 64 := Nat.pow_le_pow_right (by omega) hB
  have h4 := Nat.pow_pos (n := s) (show 0 < 2 by omega)
  rw [Nat.add_mul] at h1
  omega
theorem uj6 {H : Heap} {b : List UInt8} {z : Bool} {id a e B s n p : Nat} {x y w : PV} (hH : hget H id = some (.cells [BS z b, .int .i64 a, .int .i64 e]))
    (he : e ≤ b.length) (hb : b.length < 2 ^ 62) (hB : B ≤ 64) (hi : s < B) (hn : n < 2 ^ s) :
    run (u0d (.int .i64 B) (.ptr id 0) x y w (.int .u64 n) (.int .i64 s) (.int .i64 p)) H =
      if p < e then
        if B < s + 7 ∧ (b.getD p 0).toNat / 2 ^ (B - s) ≠ 0 then some (.ok (retU (.err p 4)) H)
        else if (b.getD p 0).toNat < 128 then some (.ok (retU (.ok (n + (b.getD p 0).toNat * 2 ^ s) (p + 1))) H)
        else run (u0d (.int .i64 B) (.ptr id 0) x y w (.int .u64 (n + (b.getD p 0).toNat % 128 * 2 ^ s : Nat)) (.int .i64 (s + 7 : Nat)) (.int .i64 (p + 1 : Nat))) H
      else some (.ok (retU (.err e 3)) H) := by
  have hid := get_lt hH
  have hset := ulm hH
  rw [u2w]
  by_cases hpe : p < e
  · have hpb : p < b.length := by omega
    have hg := uen hpb
    have hgd : b.getD p 0 = b[p] := by simp [hpb]
    rw [hgd]
    generalize b[p] = c at hg hgd ⊢
    have hc := byt_lt c
    generalize hcn : c.toNat = cn at hc
    have s1 : (B : Int) - (s : Int) = ((B - s : Nat) : Int) := by omega
    simp +contextual -dsimp (disch := omega) only [↓goDown, goUp, cr, simprocAttr, hH, hg, byt, hcn, hset, s1, u36, and127, u34, u3s, run_or, Int.toNat_natCast]
    have c0 : ¬ (e : Int) ≤ p := by omega
    rw [if_neg c0, if_pos hpe]
    have key : cn % 128 < 2 ^ (B - s) → IntKind.u64.wrap ((BitVec.ofInt IntKind.u64.bits (n : Int) ||| BitVec.ofInt IntKind.u64.bits (IntKind.u64.wrap (((cn % 128 : Nat) : Int) * 2 ^ shiftN .u64 (s : Int)))).toNat : Int) = ((n + cn % 128 * 2 ^ s : Nat) : Int) :=
      fun h => (uaj (by omega) hn (dig_lt hB hi h)).1
    have tail : cn % 128 < 2 ^ (B - s) → ∀ r, (if (cn : Int) < 128 then some (Out.ok (PV.tup [PV.int IntKind.u64 (IntKind.u64.wrap ((BitVec.ofInt IntKind.u64.bits (n : Int) ||| BitVec.ofInt IntKind.u64.bits (IntKind.u64.wrap (((cn % 128 : Nat) : Int) * 2 ^ shiftN .u64 (s : Int)))).toNat : Int)), PV.int IntKind.i64 (p + 1), PV.int IntKind.i64 0]) H) else r) =
        if cn < 128 then some (Out.ok (retU (Rs.ok (n + cn * 2 ^ s) (p + 1))) H) else r := by
      intro h r
      rw [key h]
      by_cases h1 : cn < 128
      · have c1 : (cn : Int) < 128 := by omega
        rw [if_pos h1, if_pos c1, Nat.mod_eq_of_lt h1]; rfl
      · have c1 : ¬ (cn : Int) < 128 := by omega
        rw [if_neg h1, if_neg c1]
    by_cases h7 : B - s < 7
    · have c1 : ((B - s : Nat) : Int) < 7 := by omega
      have c0 : B < s + 7 := by omega
      rw [if_pos c1, shr_u8 cn (s := B - s) (by omega)]
      by_cases hd : cn / 2 ^ (B - s) = 0
      · have hlt : cn < 2 ^ (B - s) := by
          rcases Nat.div_eq_zero_iff.mp hd with h | h
          · have := Nat.pow_pos (n := B - s) (show 0 < 2 by omega); omega
          · exact h
        have hlt2 : cn % 128 < 2 ^ (B - s) := Nat.lt_of_le_of_lt (Nat.mod_le _ _) hlt
        have c2 : ((cn / 2 ^ (B - s) : Nat) : Int) = 0 := by omega
        have c3 : ¬ (B < s + 7 ∧ ¬ cn / 2 ^ (B - s) = 0) := fun h => h.2 hd
        rw [if_pos c2, if_neg c3, tail hlt2, key hlt2]
        rfl
      · have c2 : ¬ ((cn / 2 ^ (B - s) : Nat) : Int) = 0 := by omega
        have c3 : B < s + 7 ∧ ¬ cn / 2 ^ (B - s) = 0 := ⟨c0, hd⟩
        rw [if_neg c2, if_pos c3]; rfl
    · have hlt2 : cn % 128 < 2 ^ (B - s) := by
        have : 2 ^ 7 ≤ 2 ^ (B - s) := Nat.pow_le_pow_right (by omega) (by omega)
        omega
      have c1 : ¬ ((B - s : Nat) : Int) < 7 := by omega
      have c3 : ¬ (B < s + 7 ∧ ¬ cn / 2 ^ (B - s) = 0) := by omega
      rw [if_neg c1, if_neg c3, tail hlt2, key hlt2]
      rfl
  · have c0 : (e : Int) ≤ p := by omega
    simp +contextual -dsimp (disch := omega) only [↓goDown, goUp, cr, simprocAttr, hH, hset, c0]
    rw [if_neg hpe]
    rfl
theorem ufu {H : Heap} {b : List UInt8} {z : Bool} {id a e B : Nat} {x y w : PV} (hH : hget H id = some (.cells [BS z b, .int .i64 a, .int .i64 e]))
    (he : e ≤ b.length) (hb : b.length < 2 ^ 62) (hB : B ≤ 64) (hB7 : B % 7 ≠ 0) : ∀ (f i n p : Nat), 7 * i < B → B ≤ 7 * (i + f) → n < 2 ^ (7 * i) →
    run (u0d (.int .i64 B) (.ptr id 0) x y w (.int .u64 n) (.int .i64 (7 * i : Nat)) (.int .i64 p)) H = some (.ok (retU (lebU b B e f i n p)) H)
  | 0, i, n, p, hi, hf, hn => by omega
  | f + 1, i, n, p, hi, hf, hn => by
    rw [uj6 hH he hb hB hi hn]
    unfold lebU
    by_cases h1 : p < e
    · simp only [if_pos h1]
      by_cases h2 : B < 7 * i + 7 ∧ (b.getD p 0).toNat / 2 ^ (B - 7 * i) ≠ 0
      · simp only [if_pos h2]
      · simp only [if_neg h2]
        by_cases h3 : (b.getD p 0).toNat < 128
        · simp only [if_pos h3]
        · simp only [if_neg h3]
          have h7 : ¬ B < 7 * i + 7 := by
            intro h
            refine h2 ⟨h, fun h0 => ?_⟩
            rcases Nat.div_eq_zero_iff.mp h0 with h | h'
            · have := Nat.pow_pos (n := B - 7 * i) (show 0 < 2 by omega); omega
            · have : 2 ^ (B - 7 * i) ≤ 2 ^ 6 := Nat.pow_le_pow_right (by omega) (by omega)
              omega
          by_cases h8 : 7 * (i + 1) < B
          · refine ufu hH he hb hB hB7 f (i + 1) _ (p + 1) h8 (by omega) ?_
            have h4 : 2 ^ (7 * (i + 1)) = 128 * 2 ^ (7 * i) := by rw [Nat.mul_add, Nat.pow_add, Nat.mul_comm]
            have h5 : (b.getD p 0).toNat % 128 * 2 ^ (7 * i) ≤ 127 * 2 ^ (7 * i) := Nat.mul_le_mul_right _ (by omega)
            omega
          · omega
    · simp only [if_neg h1]
def rdU (b : List UInt8) (B e p : Nat) : Rs Nat := lebU b B e 10 0 0 p
theorem uay {H : Heap} {b : List UInt8} {z : Bool} {p e : Int} :
    run (C u3d [BS z b, .int .i64 p, .int .i64 e]) H = if p < 0 ∨ b.length < e ∨ e < p then some (.ok (.tup [.agg [.slice false true 0 [], .int .i64 0, .int .i64 0], .int .i64 1]) H)
      else some (.ok (.tup [.agg [BS z b, .int .i64 p, .int .i64 e], .int .i64 0]) H) := by
  rw [uac]
  simp +contextual -dsimp (disch := omega) only [↓goDown, goUp, cr, simprocAttr, List.length_map]
  by_cases h1 : p < 0
  · simp [h1]
  · by_cases h2 : (b.length : Int) < e
    · simp [h1, h2]
    · by_cases h3 : e < p
      · simp [h1, h2, h3]
      · simp [h1, h2, h3]
theorem u7i {H : Heap} {b : List UInt8} {z : Bool} {p e B : Nat} (he : e ≤ b.length) (hb : b.length < 2 ^ 62) (hB : B = 32 ∨ B = 64) :
    run (C u0v [.agg [BS z b, .int .i64 p, .int .i64 e], .int .i64 B]) H = some (.ok (retU (rdU b B e p)) H) := by
  rw [u3x]
  have h : ∀ (x y w : PV), run (u0d (.int .i64 B) (.ptr H.length 0) x y w (.int .u64 0) (.int .i64 0) (.int .i64 p)) (hadd H [.cells [BS z b, .int .i64 p, .int .i64 e]]) = some (.ok (retU (rdU b B e p)) (hadd H [.cells [BS z b, .int .i64 p, .int .i64 e]])) :=
    fun x y w => ufu (by rw [uat]; rfl) he hb (by omega) (by omega) 10 0 0 p (by omega) (by omega) (by decide)
  have hl : ∀ n, (retU (rdU b B e p)).low n = true := by intro n; unfold retU; split <;> simp [u3m, u4g, u7e, u5w]
  simp +contextual -dsimp (disch := omega) only [↓goDown, goUp, cr, simprocAttr, h, hl]
end Go.Proofs.YtiamjepnlnjlfaaDoor.Pi.Q
namespace Go.Proofs.YtiamjepnlnjlfaaDoor.Pi.Q
open Go Go.Proofs.YtiamjepnlnjlfaaDoor.Pi
attribute [local congr] ite_congr
theorem uhs (c : Nat) {s : Nat} (h : s ≤ 64) : (c : Int).fdiv (2 ^ shiftN .i64 (s : Int)) = ((c / 2 ^ s : Nat) : Int) := by
  rw [u9i h, Int.fdiv_eq_ediv_of_nonneg _ (Int.le_of_lt (Int.pow_pos (by omega)))]
  simp
theorem umt {H : Heap} {c B i : Nat} {sg : Bool} (hc : c < 256) (hB : B ≤ 64) (hi : 7 * i < B) (hi2 : B < 7 * i + 7) :
    run (C u24 [.int .u8 c, .int .i64 B, .int .i64 i, .bool sg]) H = some (.ok (.bool (if sg then decide (okS (B - 7 * i) c) else decide (c / 2 ^ (B - 7 * i) = 0))) H) := by
  rw [u4t]
  have e1 : (7 : Int) * (i : Int) = ((7 * i : Nat) : Int) := by omega
  have e2 : (B : Int) - ((7 * i : Nat) : Int) = ((B - 7 * i : Nat) : Int) := by omega
  have e3 : ((B - 7 * i : Nat) : Int) - 1 = ((B - 7 * i - 1 : Nat) : Int) := by omega
  have e4 : (8 : Int) - ((B - 7 * i : Nat) : Int) = ((8 - (B - 7 * i) : Nat) : Int) := by omega
  generalize hL : B - 7 * i = L at *
  have w1 : IntKind.i64.wrap ((7 * i : Nat) : Int) = ((7 * i : Nat) : Int) := w_i64 (by omega)
  have ep : (2 : Int) ^ (8 - L) = ((2 ^ (8 - L) : Nat) : Int) := by simp
  have p1 : 2 ^ (8 - L) ≤ 2 ^ 8 := Nat.pow_le_pow_right (by omega) (by omega)
  have hp : ∀ k : Nat, (0 : Nat) < 2 ^ k := fun k => Nat.pow_pos (by omega)
  have s1 : shiftN .i64 ((8 - L : Nat) : Int) = 8 - L := u9i (by omega)
  have q1 : (c : Int).fdiv (2 ^ shiftN .i64 (L : Int)) = ((c / 2 ^ L : Nat) : Int) := uhs c (by omega)
  have q2 : (c : Int).fdiv (2 ^ shiftN .i64 ((L - 1 : Nat) : Int)) = ((c / 2 ^ (L - 1) : Nat) : Int) := uhs c (by omega)
  have w2 : IntKind.i64.wrap (1 * 2 ^ (8 - L)) = 2 ^ (8 - L) := by
    rw [Int.one_mul, ep]
    generalize (2 : Nat) ^ (8 - L) = q at p1
    exact w_i64 (by omega)
  have p2 := hp (8 - L)
  have e5 : (((2 ^ (8 - L) : Nat) : Int) - 1) = ((2 ^ (8 - L) - 1 : Nat) : Int) := by omega
  cases sg
  · simp +contextual -dsimp (disch := omega) only [↓goDown, goUp, cr, simprocAttr, u36, u34, u3s, run_or, un_not, e1, w1, e2, e3, e4, s1, q1, q2, w2]
    by_cases h128 : c < 128
    · have c1 : ¬ (128 : Int) ≤ c := by omega
      rw [if_neg c1]
      congr 3
      rw [Bool.eq_iff_iff]
      simp only [beq_iff_eq, decide_eq_true_eq]
      omega
    · have c1 : (128 : Int) ≤ c := by omega
      rw [if_pos c1]
      have h6 : 2 ^ L ≤ 2 ^ 6 := Nat.pow_le_pow_right (by omega) (by omega)
      have : ¬ c / 2 ^ L = 0 := by
        intro h
        rcases Nat.div_eq_zero_iff.mp h with h | h
        · have := hp L; omega
        · omega
      simp [this]
  · simp +contextual -dsimp (disch := omega) only [↓goDown, goUp, cr, simprocAttr, u36, u34, u3s, run_or, un_not, e1, w1, e2, e3, e4, s1, q1, q2, w2, ep, e5]
    by_cases h128 : c < 128
    · have c1 : ¬ (128 : Int) ≤ c := by omega
      rw [if_neg c1]
      have hd : decide (okS L c) = (decide (c / 2 ^ (L - 1) = 0) || decide (c / 2 ^ (L - 1) = 2 ^ (8 - L) - 1)) := by
        unfold okS
        simp [h128]
      rw [hd]
      by_cases z : c / 2 ^ (L - 1) = 0
      · have z' : ((c / 2 ^ (L - 1) : Nat) : Int) = 0 := by omega
        simp [z, z']
      · have z' : ¬ ((c / 2 ^ (L - 1) : Nat) : Int) = 0 := by omega
        rw [if_neg z']
        congr 3
        rw [Bool.eq_iff_iff]
        simp only [beq_iff_eq, Bool.or_eq_true, decide_eq_true_eq]
        omega
    · have c1 : (128 : Int) ≤ c := by omega
      rw [if_pos c1]
      have : ¬ okS L c := fun h => h128 h.1
      simp [this]
theorem wu (x : Int) : IntKind.u64.wrap x = x % 18446744073709551616 := by simp only [IntKind.wrap, IntKind.signed, IntKind.bits]; simp
theorem wu_add (n y : Int) : IntKind.u64.wrap (n + IntKind.u64.wrap y) = IntKind.u64.wrap (n + y) := by rw [wu, wu, wu]; omega
theorem wu_sub (n y : Int) : IntKind.u64.wrap (IntKind.u64.wrap n - IntKind.u64.wrap y) = IntKind.u64.wrap (n - y) := by rw [wu, wu, wu, wu]; omega
theorem ueh (c : Nat) : ((c : Nat) : Int).tmod 128 = ((c % 128 : Nat) : Int) := by rw [Int.tmod_eq_emod_of_nonneg (by omega)]; omega
theorem fits {n x s : Nat} (hs : s ≤ 63) (hn : n < 2 ^ s) (hx : x * 2 ^ s < 2 ^ 64) : n + x * 2 ^ s < 2 ^ 64 := (uaj hs hn hx).2
theorem valS1 {n c s : Nat} (hc : ¬ c < 64) : IntKind.u64.wrap ((n : Int) + ((c * 2 ^ s : Nat) : Int) - 1 * 2 ^ (s + 7)) = IntKind.u64.wrap (n + lastS c s) := by
  congr 1
  unfold lastS
  rw [if_neg hc, Int.sub_mul]
  have ep : (2 : Int) ^ (s + 7) = 128 * 2 ^ s := by rw [Int.pow_add, Int.mul_comm]; rfl
  rw [ep]
  push_cast
  omega
theorem valS2 {n c s : Nat} (hc : ¬ c < 64) (hs : 57 ≤ s) : IntKind.u64.wrap ((n : Int) + ((c * 2 ^ s : Nat) : Int)) = IntKind.u64.wrap (n + lastS c s) := by
  unfold lastS
  rw [if_neg hc, Int.sub_mul]
  have ep : (2 : Int) ^ (s + 7) = 128 * 2 ^ s := by rw [Int.pow_add, Int.mul_comm]; rfl
  have e9 : (128 : Int) * 2 ^ s = 2 ^ (s + 7 - 64) * 18446744073709551616 := by
    rw [← ep, pow64 (s := 64) (by omega), Nat.sub_self, Int.pow_zero, Int.one_mul, ← Int.pow_add]
    congr 1
    omega
  have e8 : ((n : Int) + ((c * 2 ^ s : Nat) : Int)) = ((n : Int) + ((c : Int) * 2 ^ s - 128 * 2 ^ s)) + 2 ^ (s + 7 - 64) * 18446744073709551616 := by
    rw [← e9]
    push_cast
    omega
  rw [e8, wu, wu, Int.add_mul_emod_self_right]
theorem valS3 {n c s : Nat} (hc : c < 64) : ((n : Int) + ((c * 2 ^ s : Nat) : Int)) = (n + lastS c s) := by
  unfold lastS
  rw [if_pos hc]
  push_cast
  rfl
theorem ui0 {H : Heap} {b : List UInt8} {z sg : Bool} {v10 v11 v12 : PV} {a e B i n : Nat} (he : e ≤ b.length) (hb : b.length < 2 ^ 61) (hB : B = 32 ∨ B = 33 ∨ B = 64) (hi : 7 * i < B) (hn : n < 2 ^ (7 * i)) (ha : a ≤ e) :
    run (u0b (BS z b) (.int .i64 a) (.int .i64 e) (.int .i64 B) (.bool sg) v10 v11 v12 (.int .i64 ((B + 6) / 7 : Nat)) (.int .u64 n) (.int .i64 i)) H =
      if a + i < e then
        if B < 7 * i + 7 ∧ ¬ (if sg then okS (B - 7 * i) (b.getD (a + i) 0).toNat else (b.getD (a + i) 0).toNat / 2 ^ (B - 7 * i) = 0) then some (.ok (.tup [.int .u64 0, .int .i64 (a + i : Nat), .int .i64 4]) H)
        else if (b.getD (a + i) 0).toNat < 128 then
          some (.ok (.tup [.int .u64 (IntKind.u64.wrap (n + if sg then lastS (b.getD (a + i) 0).toNat (7 * i) else (((b.getD (a + i) 0).toNat * 2 ^ (7 * i) : Nat) : Int))), .int .i64 (a + i + 1 : Nat), .int .i64 0]) H)
        else run (u0b (BS z b) (.int .i64 a) (.int .i64 e) (.int .i64 B) (.bool sg) v10 v11 v12 (.int .i64 ((B + 6) / 7 : Nat)) (.int .u64 (n + (b.getD (a + i) 0).toNat % 128 * 2 ^ (7 * i) : Nat)) (.int .i64 (i + 1 : Nat))) H
      else some (.ok (.tup [.int .u64 0, .int .i64 e, .int .i64 3]) H) := by
  rw [u2j]
  have c1 : (i : Int) < ((B + 6) / 7 : Nat) := by omega
  have e1 : (a : Int) + (i : Int) = ((a + i : Nat) : Int) := rfl
  by_cases hpe : a + i < e
  · have hpb : a + i < b.length := by omega
    have hg := uen hpb
    have hgd : b.getD (a + i) 0 = b[a + i] := by simp [hpb]
    rw [hgd, if_pos hpe]
    generalize b[a + i] = c at hg hgd ⊢
    have hc := byt_lt c
    generalize hcn : c.toNat = cn at hc
    have c0 : ¬ (e : Int) ≤ ((a + i : Nat) : Int) := by omega
    have e2 : (7 : Int) * (i : Int) = ((7 * i : Nat) : Int) := by omega
    have e3 : ((7 * i : Nat) : Int) + 7 = ((7 * i + 7 : Nat) : Int) := by omega
    have w1 : IntKind.u64.wrap ((7 * i : Nat) : Int) = ((7 * i : Nat) : Int) := w_u64 (by omega)
    have w2 : IntKind.i64.wrap ((7 * i : Nat) : Int) = ((7 * i : Nat) : Int) := w_i64 (by omega)
    have w3 : IntKind.u64.wrap ((cn % 128 : Nat) : Int) = ((cn % 128 : Nat) : Int) := w_u64 (by omega)
    have s1 : shiftN .u64 ((7 * i : Nat) : Int) = 7 * i := u5v (by omega)
    have e4 : (((cn % 128 : Nat) : Int) * 2 ^ (7 * i)) = ((cn % 128 * 2 ^ (7 * i) : Nat) : Int) := by simp
    have e5 : (i : Int) + 1 = ((i + 1 : Nat) : Int) := rfl
    have fin : ∀ (w : Int), w = IntKind.u64.wrap w → run (u01 (BS z b) (.int .i64 a) (.int .i64 e) (.int .i64 B) (.bool sg) v10 v11 v12 (.int .i64 ((B + 6) / 7 : Nat)) (.int .u64 w) (.int .i64 i)) H = some (.ok (.tup [.int .u64 w, .int .i64 (a + i + 1 : Nat), .int .i64 0]) H) := by
      intro w hw
      rw [u1g]
      simp +contextual -dsimp (disch := omega) only [↓goDown, goUp, cr, simprocAttr, e1]
      rfl
    have idem : ∀ x : Int, IntKind.u64.wrap x = IntKind.u64.wrap (IntKind.u64.wrap x) := by intro x; rw [wu, wu]; omega
    have wrap0 : ∀ (m : Nat), IntKind.u64.wrap (m : Int) = IntKind.u64.wrap m := fun _ => rfl
    -- the digits, joined
    have dig : B < 7 * i + 7 ∧ ¬ (if sg then okS (B - 7 * i) cn else cn / 2 ^ (B - 7 * i) = 0) ∨ ((cn < 128 ∨ 7 * i + 7 ≤ B)) := by
      by_cases h7 : B < 7 * i + 7
      · by_cases h128 : cn < 128
        · exact .inr (.inl h128)
        · left
          refine ⟨h7, ?_⟩
          cases sg with
          | true => simp only [if_true]; exact fun h => h128 h.1
          | false =>
            simp only [Bool.false_eq_true, if_false]
            intro h
            have h6 : 2 ^ (B - 7 * i) ≤ 2 ^ 6 := Nat.pow_le_pow_right (by omega) (by omega)
            have h0 : 0 < 2 ^ (B - 7 * i) := Nat.pow_pos (by omega)
            rcases Nat.div_eq_zero_iff.mp h with h | h <;> omega
      · exact .inr (.inr (by omega))
    have hm : cn < 128 → cn % 128 = cn := fun h => Nat.mod_eq_of_lt h
    have close : cn < 128 → (if sg = true then
        if (64 : Int) ≤ cn then
          if ((7 * i + 7 : Nat) : Int) < 64 then
            run (u01 (BS z b) (.int .i64 a) (.int .i64 e) (.int .i64 B) (.bool true) v10 v11 v12 (.int .i64 ((B + 6) / 7 : Nat)) (.int .u64 (IntKind.u64.wrap (IntKind.u64.wrap ((n : Int) + IntKind.u64.wrap ((cn % 128 * 2 ^ (7 * i) : Nat) : Int)) - IntKind.u64.wrap (1 * 2 ^ shiftN .u64 ((7 * i + 7 : Nat) : Int))))) (.int .i64 i)) H
          else run (u01 (BS z b) (.int .i64 a) (.int .i64 e) (.int .i64 B) (.bool true) v10 v11 v12 (.int .i64 ((B + 6) / 7 : Nat)) (.int .u64 (IntKind.u64.wrap ((n : Int) + IntKind.u64.wrap ((cn % 128 * 2 ^ (7 * i) : Nat) : Int)))) (.int .i64 i)) H
        else run (u01 (BS z b) (.int .i64 a) (.int .i64 e) (.int .i64 B) (.bool true) v10 v11 v12 (.int .i64 ((B + 6) / 7 : Nat)) (.int .u64 (IntKind.u64.wrap ((n : Int) + IntKind.u64.wrap ((cn % 128 * 2 ^ (7 * i) : Nat) : Int)))) (.int .i64 i)) H
      else run (u01 (BS z b) (.int .i64 a) (.int .i64 e) (.int .i64 B) (.bool false) v10 v11 v12 (.int .i64 ((B + 6) / 7 : Nat)) (.int .u64 (IntKind.u64.wrap ((n : Int) + IntKind.u64.wrap ((cn % 128 * 2 ^ (7 * i) : Nat) : Int)))) (.int .i64 i)) H) =
      some (.ok (.tup [.int .u64 (IntKind.u64.wrap (n + if sg = true then lastS cn (7 * i) else ((cn * 2 ^ (7 * i) : Nat) : Int))), .int .i64 (a + i + 1 : Nat), .int .i64 0]) H) := by
      intro h
      rw [hm h, wu_add, wu_sub]
      cases sg with
      | true =>
        simp only [if_true] at fin ⊢
        by_cases h64 : cn < 64
        · have q : ¬ (64 : Int) ≤ cn := by omega
          rw [if_neg q, fin _ (idem _), valS3 h64]
        · have q : (64 : Int) ≤ cn := by omega
          rw [if_pos q]
          by_cases hs : 7 * i + 7 < 64
          · have q2 : ((7 * i + 7 : Nat) : Int) < 64 := by omega
            rw [if_pos q2, u5v (by omega), valS1 h64, fin _ (idem _)]
          · have q2 : ¬ ((7 * i + 7 : Nat) : Int) < 64 := by omega
            rw [if_neg q2, valS2 h64 (by omega), fin _ (idem _)]
      | false =>
        simp only [Bool.false_eq_true, if_false] at fin ⊢
        rw [fin _ (idem _)]
    by_cases h7 : B < 7 * i + 7
    · have c2 : ((i : Int) = ((B + 6) / 7 : Nat) - 1) = True := eq_true (by omega)
      have hl := umt (H := H) (sg := sg) hc (by omega) hi h7
      by_cases hbad : (if sg then okS (B - 7 * i) cn else cn / 2 ^ (B - 7 * i) = 0)
      · have hbt : (if sg then decide (okS (B - 7 * i) cn) else decide (cn / 2 ^ (B - 7 * i) = 0)) = true := by cases sg <;> simpa using hbad
        rw [hbt] at hl
        have n1 : ¬ (B < 7 * i + 7 ∧ ¬ (if sg then okS (B - 7 * i) cn else cn / 2 ^ (B - 7 * i) = 0)) := fun h => h.2 hbad
        have h128 : cn < 128 := by rcases dig with h | h | h; exact absurd hbad h.2; exact h; omega
        have h128' : ((cn : Int) < 128) = True := eq_true (by omega)
        rw [if_neg n1, if_pos h128]
        simp +contextual -dsimp (disch := omega) only [↓goDown, goUp, cr, simprocAttr, hg, byt, hcn, u36, u34, u3s, run_or, Int.toNat_natCast, c0, c1, c2, e1, e2, w1, w2, w3, e3, s1, e4, e5, hl, un_not, ueh, h128']
        exact close h128
      · have hbt : (if sg then decide (okS (B - 7 * i) cn) else decide (cn / 2 ^ (B - 7 * i) = 0)) = false := by cases sg <;> simpa using hbad
        rw [hbt] at hl
        have n1 : (B < 7 * i + 7 ∧ ¬ (if sg then okS (B - 7 * i) cn else cn / 2 ^ (B - 7 * i) = 0)) := ⟨h7, hbad⟩
        rw [if_pos n1]
        simp +contextual -dsimp (disch := omega) only [↓goDown, goUp, cr, simprocAttr, hg, byt, hcn, Int.toNat_natCast, c0, c1, c2, e1, hl, un_not]
    · have c2 : ((i : Int) = ((B + 6) / 7 : Nat) - 1) = False := eq_false (by omega)
      have n1 : ¬ (B < 7 * i + 7 ∧ ¬ (if sg then okS (B - 7 * i) cn else cn / 2 ^ (B - 7 * i) = 0)) := fun h => h7 h.1
      rw [if_neg n1]
      by_cases h128 : cn < 128
      · have h128' : ((cn : Int) < 128) = True := eq_true (by omega)
        have c5 : ((7 * i + 7 : Nat) : Int) < 64 := by omega
        rw [if_pos h128]
        simp +contextual -dsimp (disch := omega) only [↓goDown, goUp, cr, simprocAttr, hg, byt, hcn, u36, u34, u3s, run_or, Int.toNat_natCast, c0, c1, c2, e1, e2, w1, w2, w3, e3, s1, e4, e5, un_not, ueh, h128', c5]
        have cl := close h128
        rw [if_pos c5] at cl
        exact cl
      · have h128' : ((cn : Int) < 128) = False := eq_false (by omega)
        rw [if_neg h128]
        have hx : cn % 128 * 2 ^ (7 * i) < 2 ^ 64 := dig_lt (B := 63) (by omega) (by omega) (by
          have : 2 ^ 7 ≤ 2 ^ (63 - 7 * i) := Nat.pow_le_pow_right (by omega) (by omega)
          omega)
        have hf := fits (by omega) hn hx
        have w4 : IntKind.u64.wrap ((n : Int) + IntKind.u64.wrap ((cn % 128 * 2 ^ (7 * i) : Nat) : Int)) = ((n + cn % 128 * 2 ^ (7 * i) : Nat) : Int) := by
          rw [wu_add]
          generalize cn % 128 * 2 ^ (7 * i) = q at hf
          exact w_u64 (by omega)
        simp +contextual -dsimp (disch := omega) only [↓goDown, goUp, cr, simprocAttr, hg, byt, hcn, u36, u34, u3s, run_or, Int.toNat_natCast, c0, c1, c2, e1, e2, w1, w2, w3, e3, s1, e4, e5, un_not, ueh, h128', w4]
        rfl
  · have c0 : (e : Int) ≤ ((a + i : Nat) : Int) := by omega
    simp +contextual -dsimp (disch := omega) only [↓goDown, goUp, cr, simprocAttr, c0, c1, e1]
    rw [if_neg hpe]
theorem ud8 {H : Heap} {b : List UInt8} {z : Bool} {v10 v11 v12 : PV} {a e B : Nat} (he : e ≤ b.length) (hb : b.length < 2 ^ 61) (hB : B = 32 ∨ B = 64) (ha : a ≤ e) : ∀ (f i n p : Nat), p = a + i → 7 * i < B → B ≤ 7 * (i + f) → n < 2 ^ (7 * i) →
    run (u0b (BS z b) (.int .i64 a) (.int .i64 e) (.int .i64 B) (.bool false) v10 v11 v12 (.int .i64 ((B + 6) / 7 : Nat)) (.int .u64 n) (.int .i64 i)) H = some (.ok (retU (lebU b B e f i n p)) H)
  | 0, i, n, p, hp, hi, hf, hn => by omega
  | f + 1, i, n, p, hp, hi, hf, hn => by
    subst hp
    rw [ui0 he hb (by omega) hi hn ha]
    unfold lebU
    simp only [Bool.false_eq_true, if_false]
    by_cases h1 : a + i < e
    · simp only [if_pos h1]
      by_cases h2 : B < 7 * i + 7 ∧ (b.getD (a + i) 0).toNat / 2 ^ (B - 7 * i) ≠ 0
      · simp only [if_pos h2]
        rfl
      · simp only [if_neg h2]
        generalize hc : (b.getD (a + i) 0).toNat = c at *
        have hc256 : c < 256 := by rw [← hc]; exact byt_lt _
        have hz : ∀ k : Nat, 0 < 2 ^ k := fun k => Nat.pow_pos (by omega)
        have h7 : B < 7 * i + 7 → c < 2 ^ (B - 7 * i) := by
          intro h
          have h0 : c / 2 ^ (B - 7 * i) = 0 := by
            by_cases h0 : c / 2 ^ (B - 7 * i) = 0
            · exact h0
            · exact absurd ⟨h, h0⟩ h2
          rcases Nat.div_eq_zero_iff.mp h0 with h | h
          · have := hz (B - 7 * i); omega
          · exact h
        by_cases h3 : c < 128
        · simp only [if_pos h3]
          have hx : c * 2 ^ (7 * i) < 2 ^ 64 := by
            refine dig_lt (B := B) (by omega) hi ?_
            by_cases h : B < 7 * i + 7
            · exact h7 h
            · have : 2 ^ 7 ≤ 2 ^ (B - 7 * i) := Nat.pow_le_pow_right (by omega) (by omega)
              omega
          have hf := fits (by omega) hn hx
          have w4 : IntKind.u64.wrap ((n : Int) + ((c * 2 ^ (7 * i) : Nat) : Int)) = ((n + c * 2 ^ (7 * i) : Nat) : Int) := by
            generalize c * 2 ^ (7 * i) = q at hf
            exact w_u64 (n := ((n + q : Nat) : Int)) (by omega)
          rw [w4]
          rfl
        · simp only [if_neg h3]
          have h8 : ¬ B < 7 * i + 7 := by
            intro h
            have h5 := h7 h
            have : 2 ^ (B - 7 * i) ≤ 2 ^ 6 := Nat.pow_le_pow_right (by omega) (by omega)
            omega
          refine ud8 he hb hB ha f (i + 1) _ (a + i + 1) (by omega) (by omega) (by omega) ?_
          have h4 : 2 ^ (7 * (i + 1)) = 128 * 2 ^ (7 * i) := by rw [Nat.mul_add, Nat.pow_add, Nat.mul_comm]
          have h5 : c % 128 * 2 ^ (7 * i) ≤ 127 * 2 ^ (7 * i) := Nat.mul_le_mul_right _ (by omega)
          omega
    · simp only [if_neg h1]
      rfl
theorem ulr {H : Heap} {b : List UInt8} {z : Bool} {a e : Nat} (he : e ≤ b.length) (ha : a ≤ e) :
    run (C u1y [BS z b, .int .i64 a, .int .i64 e]) H = some (.ok (.bool true) H) := by
  rw [u40]
  have c1 : ((0 : Int) ≤ a) = True := eq_true (by omega)
  have c2 : ((e : Int) ≤ b.length) = True := eq_true (by omega)
  have c3 : ((a : Int) ≤ e) = True := eq_true (by omega)
  simp +contextual -dsimp (disch := omega) only [↓goDown, goUp, cr, simprocAttr, c1, c2, c3, List.length_map]
theorem uks {H : Heap} {b : List UInt8} {z : Bool} {a e B : Nat} (he : e ≤ b.length) (hb : b.length < 2 ^ 61) (hB : B = 32 ∨ B = 64) (ha : a ≤ e) :
    run (C u0l [BS z b, .int .i64 a, .int .i64 e, .int .i64 B, .bool false]) H = some (.ok (retU (rdU b B e a)) H) := by
  rw [u3y]
  have hl : ∀ n, (retU (rdU b B e a)).low n = true := by intro n; unfold retU; split <;> simp [u3m, u4g, u7e, u5w]
  have h : ∀ (x y w : PV), run (u0b (BS z b) (.int .i64 a) (.int .i64 e) (.int .i64 B) (.bool false) x y w (.int .i64 ((B + 6) / 7 : Nat)) (.int .u64 0) (.int .i64 0)) H = some (.ok (retU (rdU b B e a)) H) :=
    fun x y w => ud8 he hb hB ha 10 0 0 a (by omega) (by omega) (by omega) (by decide)
  have e1 : IntKind.i64.wrap (((B : Int) + 6).tdiv 7) = (((B + 6) / 7 : Nat) : Int) := by rcases hB with rfl | rfl <;> decide
  have hq : (7 : Int) ≠ 0 := by decide
  simp +contextual -dsimp (disch := omega) only [↓goDown, goUp, cr, simprocAttr, ulr he ha, un_not, h, hl, e1]
end Go.Proofs.YtiamjepnlnjlfaaDoor.Pi.Q
namespace Go.Proofs.YtiamjepnlnjlfaaDoor.Pi.Q
open Go Go.Proofs.YtiamjepnlnjlfaaDoor.Pi
attribute [local congr] ite_congr
theorem uii {b : List UInt8} {B e : Nat} (hB : B % 7 ≠ 0) : ∀ (f i n p : Nat), 7 * i < B → n < 2 ^ (7 * i) → ∀ v q, lebU b B e f i n p = .ok v q → v < 2 ^ B ∧ p < q ∧ q ≤ e
  | 0, i, n, p, hi, hn, v, q, h => by cases h
  | f + 1, i, n, p, hi, hn, v, q, h => by
    unfold lebU at h
    by_cases h1 : p < e
    · simp only [if_pos h1] at h
      by_cases h2 : B < 7 * i + 7 ∧ (b.getD p 0).toNat / 2 ^ (B - 7 * i) ≠ 0
      · simp only [if_pos h2] at h; cases h
      · simp only [if_neg h2] at h
        generalize hc : (b.getD p 0).toNat = c at *
        have hz : ∀ k : Nat, 0 < 2 ^ k := fun k => Nat.pow_pos (by omega)
        have h7 : B < 7 * i + 7 → c < 2 ^ (B - 7 * i) := by
          intro h
          have h0 : c / 2 ^ (B - 7 * i) = 0 := by
            by_cases h0 : c / 2 ^ (B - 7 * i) = 0
            · exact h0
            · exact absurd ⟨h, h0⟩ h2
          rcases Nat.div_eq_zero_iff.mp h0 with h | h
          · have := hz (B - 7 * i); omega
          · exact h
        by_cases h3 : c < 128
        · simp only [if_pos h3, Rs.ok.injEq] at h
          obtain ⟨rfl, rfl⟩ := h
          have hlt : c < 2 ^ (B - 7 * i) := by
            by_cases h : B < 7 * i + 7
            · exact h7 h
            · have : 2 ^ 7 ≤ 2 ^ (B - 7 * i) := Nat.pow_le_pow_right (by omega) (by omega)
              omega
          refine ⟨?_, by omega, by omega⟩
          have h4 : (c + 1) * 2 ^ (7 * i) ≤ 2 ^ (B - 7 * i) * 2 ^ (7 * i) := Nat.mul_le_mul_right _ hlt
          have h5 : 2 ^ (B - 7 * i) * 2 ^ (7 * i) = 2 ^ B := by rw [← Nat.pow_add, Nat.sub_add_cancel (by omega)]
          rw [Nat.add_mul] at h4
          omega
        · simp only [if_neg h3] at h
          have h8 : ¬ B < 7 * i + 7 := by
            intro h
            have h5 := h7 h
            have : 2 ^ (B - 7 * i) ≤ 2 ^ 6 := Nat.pow_le_pow_right (by omega) (by omega)
            omega
          have h4 : 2 ^ (7 * (i + 1)) = 128 * 2 ^ (7 * i) := by rw [Nat.mul_add, Nat.pow_add, Nat.mul_comm]
          have h5 : c % 128 * 2 ^ (7 * i) ≤ 127 * 2 ^ (7 * i) := Nat.mul_le_mul_right _ (by omega)
          obtain ⟨a1, a2, a3⟩ := uii hB f (i + 1) _ (p + 1) (by omega) (by omega) v q h
          exact ⟨a1, by omega, a3⟩
    · simp only [if_neg h1] at h; cases h
theorem u71 {b : List UInt8} {e p v q : Nat} (h : rdU b 32 e p = .ok v q) : v < 2 ^ 32 ∧ p < q ∧ q ≤ e := uii (by decide) 10 0 0 p (by omega) (by decide) v q h
def retK (k : IntKind) : Rs Nat → PV
  | .ok n p => .tup [.int k n, .int .i64 p, .int .i64 0]
  | .err p e => .tup [.int k 0, .int .i64 p, .int .i64 e]
theorem uhk {H : Heap} {b : List UInt8} {z : Bool} {p e : Nat} (he : e ≤ b.length) (hb : b.length < 2 ^ 61) :
    run (C u5o [.agg [BS z b, .int .i64 p, .int .i64 e]]) H = some (.ok (retU (rdU b 32 e p)) H) := by
  rw [uh0]
  have h := u7i (H := hadd H [.cells [BS z b, .int .i64 p, .int .i64 e]]) (z := z) (p := p) (B := 32) he (by omega) (.inl rfl)
  have h : run (C u0v [.agg [BS z b, .int .i64 p, .int .i64 e], .int .i64 32]) (hadd H [.cells [BS z b, .int .i64 p, .int .i64 e]]) = _ := h
  cases hr : rdU b 32 e p <;> rw [hr] at h <;> simp only [retU] at h ⊢ <;>
    simp +contextual -dsimp (disch := omega) only [↓goDown, goUp, cr, simprocAttr, h]
theorem uck {H : Heap} {b : List UInt8} {z : Bool} {p e : Nat} (he : e ≤ b.length) (hp : p ≤ e) :
    run (C u3d [BS z b, .int .i64 p, .int .i64 e]) H = some (.ok (.tup [.agg [BS z b, .int .i64 p, .int .i64 e], .int .i64 0]) H) := by
  rw [uay, if_neg (by omega)]
theorem uha {H : Heap} {b : List UInt8} {z : Bool} {p e : Nat} (he : e ≤ b.length) (hb : b.length < 2 ^ 61) (hp : p ≤ e) :
    run (C u8w [BS z b, .int .i64 p, .int .i64 e]) H = some (.ok (retK .u32 (rdU b 32 e p)) H) := by
  have h1 : run (C u16 [BS z b, .int .i64 p, .int .i64 e, .fn u5o [] []]) H = some (.ok (retK .u32 (rdU b 32 e p)) H) := by
    rw [u33]
    have h := uhk (H := hadd H [.cells [BS z b, .int .i64 p, .int .i64 e]]) (z := z) (p := p) he hb
    cases hr : rdU b 32 e p with
    | ok v q =>
      have hv := u71 hr
      rw [hr] at h
      simp only [retU, retK] at h ⊢
      simp +contextual -dsimp (disch := omega) only [↓goDown, goUp, cr, simprocAttr, h, uck he hp]
    | err a w =>
      rw [hr] at h
      simp only [retU, retK] at h ⊢
      simp +contextual -dsimp (disch := omega) only [↓goDown, goUp, cr, simprocAttr, h, uck he hp]
  rw [ugz]
  cases hr : rdU b 32 e p <;> rw [hr] at h1 <;> simp only [retK] at h1 ⊢ <;>
    simp +contextual -dsimp (disch := omega) only [↓goDown, goUp, cr, simprocAttr, h1]
theorem ugk {b : List UInt8} {B e : Nat} : ∀ (f i n p : Nat) a w, lebU b B e f i n p = .err a w → w = 3 ∨ w = 4
  | 0, i, n, p, a, w, h => by cases h; exact .inr rfl
  | f + 1, i, n, p, a, w, h => by
    unfold lebU at h
    by_cases h1 : p < e
    · simp only [if_pos h1] at h
      by_cases h2 : B < 7 * i + 7 ∧ (b.getD p 0).toNat / 2 ^ (B - 7 * i) ≠ 0
      · simp only [if_pos h2, Rs.err.injEq] at h; exact .inr h.2.symm
      · simp only [if_neg h2] at h
        by_cases h3 : (b.getD p 0).toNat < 128
        · simp only [if_pos h3] at h; cases h
        · simp only [if_neg h3] at h; exact ugk f _ _ _ a w h
    · simp only [if_neg h1, Rs.err.injEq] at h; exact .inl h.2.symm
theorem udm {b : List UInt8} {B e p a w : Nat} (h : rdU b B e p = .err a w) : w ≠ 0 := by have := ugk 10 0 0 p a w h; omega
end Go.Proofs.YtiamjepnlnjlfaaDoor.Pi.Q
namespace Go.Proofs.YtiamjepnlnjlfaaDoor.Pi.Q
open Go Go.Proofs.YtiamjepnlnjlfaaDoor.Pi
attribute [local congr] ite_congr
structure VT where
  num : Int
  nul : Bool
  heap : Int
  deriving DecidableEq
theorem ns (p : Nat) : ((p + 1 : Nat) : Int) = (p : Int) + 1 := rfl
end Go.Proofs.YtiamjepnlnjlfaaDoor.Pi.Q
namespace Go.Proofs.YtiamjepnlnjlfaaDoor.Pi.Q
open Go Go.Proofs.YtiamjepnlnjlfaaDoor.Pi
attribute [local congr] ite_congr
def accP (sz : Nat) (l : List PV) : PV := match l with | [] => .slice false true 0 [] | l => .slice true false sz l
theorem ap_acc {H : Heap} {sz b : Nat} {l : List PV} {v : PV} {o : Bool} (h : (l.length + 1) * max b 1 ≤ 140737488355328) :
    run (ap true sz b (accP sz l) (.slice o false sz [v])) H = some (.ok (accP sz (l ++ [v])) H) := by
  cases l with
  | nil =>
    unfold accP run ap tail growB
    have h2 : max b 1 ≤ 140737488355328 := by simpa using h
    simp [h2, M.pure]
  | cons x r =>
    unfold accP run ap tail growB
    have h2 : ((x :: r).length + [v].length) * max b 1 ≤ 140737488355328 := by simpa using h
    simp only [beq_self_eq_true, Bool.or_true, cond_true, cond_false, Bool.true_and, decide_eq_true h2]
    rfl
theorem u7f {sz : Nat} {l : List PV} : isTup (accP sz l) = false := by unfold accP; split <;> rfl
theorem uei {sz n : Nat} {l : List PV} : (accP sz l).low n = true := by unfold accP; split <;> simp [u7w]
structure BK where
  ty : Int
  res : VT
  deriving DecidableEq
end Go.Proofs.YtiamjepnlnjlfaaDoor.Pi.Q
namespace Go.Proofs.YtiamjepnlnjlfaaDoor.Pi.Q
open Go Go.Proofs.YtiamjepnlnjlfaaDoor.Pi
attribute [local congr] ite_congr
theorem run_ta {H : Heap} {t : TypeId} {zv v : PV} : run (ta t zv false (.iface t v)) H = some (.ok v H) := by
  unfold run ta
  simp [M.pure]
theorem run_mf {H : Heap} {f : FuncId} {a b : List PV} : run (mf f a b) H = if (a.all isVal && b.all isVal) = true then some (.ok (.fn f (a.map stripC) (b.map stripC)) H) else none := by
  unfold run mf
  cases (a.all isVal && b.all isVal) <;> rfl
theorem bi_if {a : PV} {t : TypeId} {H : Heap} : run (bi .neq .iface (.iface t a) .niliface) H = some (.ok (.bool true) H) := nrfl rfl
theorem bi_ifn {H : Heap} : run (bi .neq .iface .niliface .niliface) H = some (.ok (.bool false) H) := nrfl rfl
theorem cutL {H : Heap} {L : List Box} (k : Nat) : hcut (hadd H L) (H.length + k) = hadd H (L.take k) := by unfold hcut hadd; rw [List.take_append, List.take_of_length_le (by omega), Nat.add_sub_cancel_left]
theorem uj4 {n k : Nat} : (n + (k + 1) == n) = false := by simp
end Go.Proofs.YtiamjepnlnjlfaaDoor.Pi.Q
namespace Go.Proofs.YtiamjepnlnjlfaaDoor.Pi.Q
open Go Go.Proofs.YtiamjepnlnjlfaaDoor.Pi
attribute [local congr] ite_congr
structure FT where
  ty : VT
  mu : Bool
  deriving DecidableEq
end Go.Proofs.YtiamjepnlnjlfaaDoor.Pi.Q
namespace Go.Proofs.YtiamjepnlnjlfaaDoor.Pi.Q
open Go Go.Proofs.YtiamjepnlnjlfaaDoor.Pi
attribute [local congr] ite_congr
def shutP (sz : Nat) (l : List PV) : PV := match l with | [] => .slice false true 0 [] | l => .slice false false sz l
theorem umo {sz : Nat} {l : List PV} : strip (shutP sz l) = shutP sz l := by cases l <;> rfl
theorem uke {sz : Nat} {l : List PV} : strip (accP sz l) = shutP sz l := by cases l <;> rfl
theorem uhi {sz : Nat} {l : List PV} : stripC (accP sz l) = shutP sz l := by cases l <;> rfl
structure CT where
  kind : Int
  ps : List VT
  rs : List VT
  fs : List FT
  deriving DecidableEq
structure ST where
  fin : Bool
  sup : List Int
  comp : CT
  deriving DecidableEq
end Go.Proofs.YtiamjepnlnjlfaaDoor.Pi.Q
namespace Go.Proofs.YtiamjepnlnjlfaaDoor.Pi.Q
open Go Go.Proofs.YtiamjepnlnjlfaaDoor.Pi
attribute [local congr] ite_congr
def accB (b : List UInt8) : PV := accP 1 (bytes b)
theorem byt_of {n : Nat} (h : n < 256) : byt (UInt8.ofNat n) = .int .u8 n := by
  unfold byt
  rw [UInt8.toNat_ofNat', Nat.mod_eq_of_lt h]
theorem bs_byt {n : Nat} (h : n < 256) {K : Heap} : run (bs true none [.int .u8 n]) K = some (.ok (.slice true false 1 [byt (UInt8.ofNat n)]) K) := by
  rw [byt_of h]
  rfl
theorem u8s {n : Nat} (h : n < 256) {K : Heap} : bsR true none [.int .u8 n] K = some (.ok (.slice true false 1 [byt (UInt8.ofNat n)]) K) := by
  rw [byt_of h]
  rfl
theorem ap_B {acc : List UInt8} {c : UInt8} {K : Heap} (h : acc.length + 1 ≤ 140737488355328) : run (ap true 1 1 (accB acc) (.slice true false 1 [byt c])) K = some (.ok (accB (acc ++ [c])) K) := by
  have := ap_acc (H := K) (sz := 1) (b := 1) (l := bytes acc) (v := byt c) (o := true) (by simpa [bytes] using h)
  unfold accB
  rw [this]
  simp [bytes]
def putU (n : Nat) : List UInt8 := if n < 128 then [UInt8.ofNat n] else UInt8.ofNat (n % 128 + 128) :: putU (n / 128)
termination_by n
decreasing_by omega
theorem or128 : ∀ m : Fin 256, IntKind.u8.wrap (BitVec.ofInt 8 (m.val : Int) ||| BitVec.ofInt 8 128).toNat = ((m.val % 128 + 128 : Nat) : Int) := by decide +kernel
theorem um4 (n : Nat) : bi .or .none (.int .u8 ((n % 256 : Nat) : Int)) (.int .u8 128) = M.pure (.int .u8 ((n % 128 + 128 : Nat) : Int)) := by
  rw [run_or]
  have := or128 ⟨n % 256, by omega⟩
  have e : n % 256 % 128 = n % 128 := by omega
  simp only [e] at this
  rw [show IntKind.u8.bits = 8 from rfl, this]
theorem shr7 (n : Nat) : bi .shr .none (.int .u64 (n : Int)) (.int .u64 7) = M.pure (.int .u64 ((n / 128 : Nat) : Int)) := by
  rw [u3s (by omega)]
  have : (n : Int).fdiv (2 ^ shiftN .u64 7) = ((n / 128 : Nat) : Int) := by
    have e : (2 : Int) ^ shiftN .u64 7 = 128 := by decide
    rw [e]
    simp [Int.fdiv_eq_ediv]
  rw [this]
theorem ucr {H : Heap} {v2 : PV} : ∀ (m n : Nat) (acc : List UInt8), n < 128 ^ (m + 1) → n < 2 ^ 64 → acc.length + m < 1000 → run (u1r (.int .u64 n) v2 (accB acc)) H = some (.ok (accB (acc ++ putU n)) H)
  | m, n, acc, h, hn, hl => by
    have hap := fun c K => ap_B (acc := acc) (c := c) (K := K) (by omega)
    have ht : isTup (accB (acc ++ [UInt8.ofNat n])) = false := u7f
    by_cases h1 : n < 128
    · have c1 : ¬ (127 : Int) < n := by omega
      have hbs := fun K => u8s (n := n) (by omega) (K := K)
      rw [u3b, putU, if_pos h1]
      simp +contextual -dsimp (disch := omega) only [↓goDown, goUp, cr, simprocAttr, c1, hbs, hap, ht]
    · cases m with
      | zero => simp at h; omega
      | succ m =>
        have c1 : (127 : Int) < n := by omega
        have hw : IntKind.u8.wrap (n : Int) = ((n % 256 : Nat) : Int) := by rw [show IntKind.u8.wrap (n : Int) = (n : Int) % 256 from rfl]; omega
        have hbs := fun K => u8s (n := n % 128 + 128) (by omega) (K := K)
        have ih := ucr (H := H) (v2 := v2) m (n / 128) (acc ++ [UInt8.ofNat (n % 128 + 128)]) (by
          have : 128 ^ (m + 1 + 1) = 128 ^ (m + 1) * 128 := Nat.pow_succ ..
          exact Nat.div_lt_of_lt_mul (by omega)) (by omega) (by simp; omega)
        rw [u3b, putU, if_neg h1]
        simp +contextual -dsimp (disch := omega) only [↓goDown, goUp, cr, simprocAttr, c1, hw, um4, shr7, hbs, hap]
        rw [ih]
        simp
theorem umq {H : Heap} {n : Nat} (hn : n < 2 ^ 64) : run (C u4n [.int .u64 n]) H = some (.ok (accB (putU n)) H) := by
  rw [uej]
  have h := ucr (H := H) (v2 := .slice false true 0 []) 9 n [] (by omega) hn (by simp)
  have h : run (u1r (.int .u64 n) (.slice false true 0 []) (.slice false true 0 [])) H = some (.ok (accB (putU n)) H) := h
  have hl : ∀ k, (accB (putU n)).low k = true := fun k => uei
  simp +contextual -dsimp (disch := omega) only [↓goDown, goUp, cr, simprocAttr, h, hl]
theorem u9t {H : Heap} {v2 : PV} : ∀ (m n : Nat) (acc : List UInt8), n < 128 ^ (m + 1) → n < 2 ^ 64 → acc.length + m < 1000 → run (u0t (.int .u64 n) v2 (accB acc)) H = some (.ok (accB (acc ++ putU n)) H)
  | m, n, acc, h, hn, hl => by
    have hap := fun c K => ap_B (acc := acc) (c := c) (K := K) (by omega)
    have ht : isTup (accB (acc ++ [UInt8.ofNat n])) = false := u7f
    by_cases h1 : n < 128
    · have c1 : ¬ (128 : Int) ≤ n := by omega
      have hbs := fun K => u8s (n := n) (by omega) (K := K)
      rw [u1s, putU, if_pos h1]
      simp +contextual -dsimp (disch := omega) only [↓goDown, goUp, cr, simprocAttr, c1, hbs, hap, ht]
    · cases m with
      | zero => simp at h; omega
      | succ m =>
        have c1 : (128 : Int) ≤ n := by omega
        have hrem : (n : Int).tmod 128 = ((n % 128 : Nat) : Int) := rfl
        have hquo : (n : Int).tdiv 128 = ((n / 128 : Nat) : Int) := rfl
        have hadd : ((n % 128 : Nat) : Int) + 128 = ((n % 128 + 128 : Nat) : Int) := rfl
        have hbs := fun K => u8s (n := n % 128 + 128) (by omega) (K := K)
        have ih := u9t (H := H) (v2 := v2) m (n / 128) (acc ++ [UInt8.ofNat (n % 128 + 128)]) (by
          have : 128 ^ (m + 1 + 1) = 128 ^ (m + 1) * 128 := Nat.pow_succ ..
          exact Nat.div_lt_of_lt_mul (by omega)) (by omega) (by simp; omega)
        rw [u1s, putU, if_neg h1]
        simp +contextual -dsimp (disch := omega) only [↓goDown, goUp, cr, simprocAttr, c1, hrem, hquo, hadd, hbs, hap]
        rw [ih]
        simp
theorem ult {H : Heap} {n : Nat} (hn : n < 2 ^ 64) : run (C u1k [.int .u64 n]) H = some (.ok (accB (putU n)) H) := by
  rw [u4s]
  have h := u9t (H := H) (v2 := .slice false true 0 []) 9 n [] (by omega) hn (by simp)
  have h : run (u0t (.int .u64 n) (.slice false true 0 []) (.slice false true 0 [])) H = some (.ok (accB (putU n)) H) := h
  have hl : ∀ k, (accB (putU n)).low k = true := fun k => uei
  simp +contextual -dsimp (disch := omega) only [↓goDown, goUp, cr, simprocAttr, h, hl]
theorem ujl {n : Nat} : putU n ≠ [] := by
  rw [putU]
  split <;> simp
theorem ufp : ∀ (m n : Nat), n < 128 ^ (m + 1) → (putU n).length ≤ m + 1
  | m, n, h => by
    rw [putU]
    split
    · simp
    · cases m with
      | zero => simp at h; omega
      | succ m =>
        have := ufp m (n / 128) (by
          have : 128 ^ (m + 1 + 1) = 128 ^ (m + 1) * 128 := Nat.pow_succ ..
          exact Nat.div_lt_of_lt_mul (by omega))
        simp only [List.length_cons]
        omega
theorem uey {n : Nat} (h : n < 2 ^ 64) : (putU n).length ≤ 10 := ufp 9 n (by omega)
end Go.Proofs.YtiamjepnlnjlfaaDoor.Pi.Q
namespace Go.Proofs.YtiamjepnlnjlfaaDoor.Pi.Q
open Go Go.Proofs.YtiamjepnlnjlfaaDoor.Pi
attribute [local congr] ite_congr
theorem and127 : ∀ m : Fin 256, IntKind.u8.wrap (BitVec.ofInt 8 (m.val : Int) &&& BitVec.ofInt 8 127).toNat = ((m.val % 128 : Nat) : Int) := by decide +kernel
end Go.Proofs.YtiamjepnlnjlfaaDoor.Pi.Q
namespace Go.Proofs.YtiamjepnlnjlfaaDoor.Pi.Q
open Go Go.Proofs.YtiamjepnlnjlfaaDoor.Pi
attribute [local congr] ite_congr
inductive Wr where
  | ok (u : List UInt8)
  | err (w : Nat)
end Go.Proofs.YtiamjepnlnjlfaaDoor.Pi.Q
namespace Go.Proofs.YtiamjepnlnjlfaaDoor.Pi.Q
open Go Go.Proofs.YtiamjepnlnjlfaaDoor.Pi
theorem u5t (c : Nat) : Lib.firstT c < 256 := by
  unfold Lib.firstT
  repeat' split
  all_goals omega
attribute [local congr] ite_congr
variable {H : Heap} {z : Bool}
theorem udv : ∀ c ∈ List.range 256, firstC.drop c = .int .u8 (Lib.firstT c) :: firstC.drop (c + 1) := fun c hc => by
  have hl : firstC.length = 256 := by unfold firstC; rw [List.length_map, List.length_range]
  have h : c < firstC.length := by rw [hl]; exact List.mem_range.mp hc
  rw [List.drop_eq_getElem_cons h]
  congr 1
  simp [firstC]
theorem u8f {c : Nat} (h : c < 256) : run (iaA 256 1 (GT 0) (.int .u8 c)) H = some (.ok (.elem (.int .u8 (Lib.firstT c) :: firstC.drop (c + 1))) H) := by
  rw [GT_0, ← udv c (List.mem_range.mpr h)]
  unfold run iaA
  have h1 : decide ((0 : Int) ≤ (c : Int)) = true := decide_eq_true (by omega)
  have h2 : decide ((c : Int) < ((256 : Nat) : Int)) = true := decide_eq_true (by omega)
  simp only [h1, h2, Bool.and_self, cond_true, Int.toNat_natCast, Nat.mul_one, M.pure]
theorem ujn : ∀ i ∈ List.range 16, accC.drop (i * 2) = .int .u8 (Lib.accLo i) :: .int .u8 (Lib.accHi i) :: accC.drop (i * 2 + 2) := by
  intro i hi
  have h := List.mem_range.mp hi
  have : i = 0 ∨ i = 1 ∨ i = 2 ∨ i = 3 ∨ i = 4 ∨ i = 5 ∨ i = 6 ∨ i = 7 ∨ i = 8 ∨ i = 9 ∨ i = 10 ∨ i = 11 ∨ i = 12 ∨ i = 13 ∨ i = 14 ∨ i = 15 := by omega
  rcases this with rfl | rfl | rfl | rfl | rfl | rfl | rfl | rfl | rfl | rfl | rfl | rfl | rfl | rfl | rfl | rfl <;> rfl
theorem uep {i : Nat} (h : i < 16) : run (iaA 16 2 (GT 1) (.int .u8 i)) H = some (.ok (.elem (.int .u8 (Lib.accLo i) :: .int .u8 (Lib.accHi i) :: accC.drop (i * 2 + 2))) H) := by
  rw [GT_1, ← ujn i (List.mem_range.mpr h)]
  unfold run iaA
  have h1 : decide ((0 : Int) ≤ (i : Int)) = true := decide_eq_true (by omega)
  have h2 : decide ((i : Int) < ((16 : Nat) : Int)) = true := decide_eq_true (by omega)
  simp only [h1, h2, Bool.and_self, cond_true, Int.toNat_natCast, M.pure]
theorem and7 : ∀ n ∈ List.range 256, bi .and .none (.int .u8 (n : Nat)) (.int .u8 7) = M.pure (.int .u8 ((n % 8 : Nat) : Int)) := by
  intro n hn
  have h := List.mem_range.mp hn
  rw [u36]
  have : (BitVec.ofInt IntKind.u8.bits (n : Int) &&& BitVec.ofInt IntKind.u8.bits 7).toNat = n % 8 := by
    rw [BitVec.toNat_and, BitVec.toNat_ofInt, BitVec.toNat_ofInt, show IntKind.u8.bits = 8 from rfl]
    rw [show ((7 : Int) % ((2 ^ 8 : Nat) : Int)).toNat = 2 ^ 3 - 1 from rfl, Nat.and_two_pow_sub_one_eq_mod]
    omega
  rw [this, w_u8 (by omega)]
theorem uef {c : Nat} : bi .and .none (.int .u8 (Lib.firstT c : Nat)) (.int .u8 7) = M.pure (.int .u8 ((Lib.firstT c % 8 : Nat) : Int)) := and7 _ (List.mem_range.mpr (u5t c))
theorem ue6 {n : Nat} (h : n < 256) : bi .shr .none (.int .u8 (n : Nat)) (.int .u64 4) = M.pure (.int .u8 ((n / 16 : Nat) : Int)) := by
  rw [u3s (by omega), show shiftN .u8 4 = 4 from rfl, Int.fdiv_eq_ediv_of_nonneg _ (by omega)]
  congr 2
def fullN (n c0 c1 c2 : Nat) : Bool :=
  if n = 0 then false else if Lib.firstT c0 % 8 ≤ n then true
  else if 1 < n ∧ (c1 < Lib.accLo (Lib.firstT c0 / 16) ∨ Lib.accHi (Lib.firstT c0 / 16) < c1) then true
  else decide (2 < n ∧ (c2 < 128 ∨ 191 < c2))
def bN (p : List UInt8) (i : Nat) : Nat := (p.getD i 0).toNat
theorem bN_lt {p : List UInt8} {i : Nat} : bN p i < 256 := (p.getD i 0).toNat_lt
def fullL (p : List UInt8) : Bool := fullN p.length (bN p 0) (bN p 1) (bN p 2)
theorem iaB {p : List UInt8} {i : Nat} (h : i < p.length) : run (iaS 1 (BS z p) (.int .i64 i)) H = some (.ok (.elem [.int .u8 (bN p i : Nat)]) H) := by
  rw [udn (by omega), Int.toNat_natCast, uen h]
  unfold bN byt
  rw [List.getD_eq_getElem?_getD, List.getElem?_eq_getElem h]
  rfl
theorem umg {p : List UInt8} (hp : p.length < 2 ^ 61) : run (C u1i [BS z p]) H = some (.ok (.bool (fullL p)) H) := by
  have hf := u5t (bN p 0)
  have hia := fun K => u8f (H := K) (c := bN p 0) bN_lt
  have hac := fun K => uep (H := K) (i := Lib.firstT (bN p 0) / 16) (by omega)
  have w1 : IntKind.i64.wrap ((Lib.firstT (bN p 0) % 8 : Nat) : Int) = ((Lib.firstT (bN p 0) % 8 : Nat) : Int) := w_i64 (by omega)
  have s4 := ue6 hf
  have a7 := uef (c := bN p 0)
  have r0 := fun (h : 0 < p.length) K => iaB (H := K) (z := z) h
  have r1 := fun (h : 1 < p.length) K => iaB (H := K) (z := z) h
  have r2 := fun (h : 2 < p.length) K => iaB (H := K) (z := z) h
  simp only [show ((0 : Nat) : Int) = 0 from rfl, show ((1 : Nat) : Int) = 1 from rfl, show ((2 : Nat) : Int) = 2 from rfl] at r0 r1 r2
  rw [u3i]
  unfold fullL fullN
  generalize bN p 0 = c0 at *
  generalize Lib.firstT c0 = x at *
  by_cases hn : p.length = 0
  · have hn' : ((p.length : Int) = 0) = True := eq_true (by omega)
    rw [if_pos hn]
    simp +contextual -dsimp (disch := omega) only [↓goDown, goUp, cr, simprocAttr, List.length_map, hn']
  · have hn' : ((p.length : Int) = 0) = False := eq_false (by omega)
    rw [if_neg hn]
    have r0 := r0 (by omega)
    by_cases h1 : x % 8 ≤ p.length
    · have h1' : (((x % 8 : Nat) : Int) ≤ (p.length : Int)) = True := eq_true (by omega)
      rw [if_pos h1]
      simp +contextual -dsimp (disch := omega) only [↓goDown, goUp, cr, simprocAttr, List.length_map, hn', r0, hia, a7, w1, h1']
    · have h1' : (((x % 8 : Nat) : Int) ≤ (p.length : Int)) = False := eq_false (by omega)
      rw [if_neg h1]
      by_cases hn1 : 1 < p.length
      · have g1 : ((1 : Int) < (p.length : Int)) = True := eq_true (by omega)
        have r1 := r1 hn1
        generalize bN p 1 = c1 at *
        by_cases hlo : c1 < Lib.accLo (x / 16)
        · have hlo' : ((c1 : Int) < (Lib.accLo (x / 16) : Int)) = True := eq_true (by omega)
          rw [if_pos ⟨hn1, .inl hlo⟩]
          simp +contextual -dsimp (disch := omega) only [↓goDown, goUp, cr, simprocAttr, List.length_map, hn', r0, hia, a7, w1, h1', s4, hac, g1, r1, hlo']
        · have hlo' : ((c1 : Int) < (Lib.accLo (x / 16) : Int)) = False := eq_false (by omega)
          by_cases hhi : Lib.accHi (x / 16) < c1
          · have hhi' : ((Lib.accHi (x / 16) : Int) < (c1 : Int)) = True := eq_true (by omega)
            rw [if_pos ⟨hn1, .inr hhi⟩]
            simp +contextual -dsimp (disch := omega) only [↓goDown, goUp, cr, simprocAttr, List.length_map, hn', r0, hia, a7, w1, h1', s4, hac, g1, r1, hlo', hhi']
          · have hhi' : ((Lib.accHi (x / 16) : Int) < (c1 : Int)) = False := eq_false (by omega)
            rw [if_neg (fun h => by omega)]
            by_cases hn2 : 2 < p.length
            · have g2 : ((2 : Int) < (p.length : Int)) = True := eq_true (by omega)
              have r2 := r2 hn2
              generalize bN p 2 = c2 at *
              by_cases l2 : c2 < 128
              · have l2' : ((c2 : Int) < 128) = True := eq_true (by omega)
                rw [decide_eq_true (by omega)]
                simp +contextual -dsimp (disch := omega) only [↓goDown, goUp, cr, simprocAttr, List.length_map, hn', r0, hia, a7, w1, h1', s4, hac, g1, r1, hlo', hhi', g2, r2, l2']
              · have l2' : ((c2 : Int) < 128) = False := eq_false (by omega)
                by_cases u2 : 191 < c2
                · have u2' : ((191 : Int) < (c2 : Int)) = True := eq_true (by omega)
                  rw [decide_eq_true (by omega)]
                  simp +contextual -dsimp (disch := omega) only [↓goDown, goUp, cr, simprocAttr, List.length_map, hn', r0, hia, a7, w1, h1', s4, hac, g1, r1, hlo', hhi', g2, r2, l2', u2']
                · have u2' : ((191 : Int) < (c2 : Int)) = False := eq_false (by omega)
                  rw [decide_eq_false (by omega)]
                  simp +contextual -dsimp (disch := omega) only [↓goDown, goUp, cr, simprocAttr, List.length_map, hn', r0, hia, a7, w1, h1', s4, hac, g1, r1, hlo', hhi', g2, r2, l2', u2']
            · have g2 : ((2 : Int) < (p.length : Int)) = False := eq_false (by omega)
              rw [decide_eq_false (by omega)]
              simp +contextual -dsimp (disch := omega) only [↓goDown, goUp, cr, simprocAttr, List.length_map, hn', r0, hia, a7, w1, h1', s4, hac, g1, r1, hlo', hhi', g2]
      · have g1 : ((1 : Int) < (p.length : Int)) = False := eq_false (by omega)
        have g2 : ((2 : Int) < (p.length : Int)) = False := eq_false (by omega)
        rw [if_neg (fun h => hn1 h.1), decide_eq_false (by omega)]
        simp +contextual -dsimp (disch := omega) only [↓goDown, goUp, cr, simprocAttr, List.length_map, hn', r0, hia, a7, w1, h1', s4, hac, g1, g2]
end Go.Proofs.YtiamjepnlnjlfaaDoor.Pi.Q
namespace Go.Proofs.YtiamjepnlnjlfaaDoor.Pi.Q
open Go Go.Proofs.YtiamjepnlnjlfaaDoor.Pi
def letN (n c0 c1 c2 c3 : Nat) : Nat :=
  if c0 < 128 then 1 else if 240 ≤ Lib.firstT c0 then 0 else if n < Lib.firstT c0 % 8 then 0
  else if c1 < Lib.accLo (Lib.firstT c0 / 16) ∨ Lib.accHi (Lib.firstT c0 / 16) < c1 then 0 else if Lib.firstT c0 % 8 ≤ 2 then 2
  else if c2 < 128 ∨ 191 < c2 then 0 else if Lib.firstT c0 % 8 ≤ 3 then 3 else if c3 < 128 ∨ 191 < c3 then 0 else 4
theorem u6v {c : Nat} (h0 : 128 ≤ c) (h : 240 ≤ Lib.firstT c) : Lib.firstT c = 241 := by
  unfold Lib.firstT at h ⊢
  repeat' split
  all_goals first | rfl | (exfalso; omega) | skip
  all_goals (repeat' split at h) <;> first | rfl | omega
theorem u47 {c : Nat} (h0 : 128 ≤ c) (h : ¬ 240 ≤ Lib.firstT c) : Lib.firstT c % 8 = 2 ∨ Lib.firstT c % 8 = 3 ∨ Lib.firstT c % 8 = 4 := by
  unfold Lib.firstT at h ⊢
  repeat' split
  all_goals first | omega | (exfalso; repeat' split at h) <;> omega
attribute [local congr] ite_congr
variable {H : Heap} {z : Bool}
theorem uh3 {a : Int} : bi .andNot .none (.int .i32 a) (.int .i32 (-1)) = M.pure (.int .i32 0) := by
  show M.pure (PV.int .i32 (IntKind.i32.wrap ((BitVec.ofInt 32 a &&& ~~~ BitVec.ofInt 32 (-1)).toNat : Int))) = _
  have : (BitVec.ofInt 32 a &&& ~~~ BitVec.ofInt 32 (-1)) = 0#32 := by
    rw [show ~~~ BitVec.ofInt 32 (-1) = 0#32 by decide, BitVec.and_zero]
  rw [this]
  rfl
theorem umf : (IntKind.i32.wrap (241 * 2 ^ shiftN IntKind.i32 31)).fdiv (2 ^ shiftN IntKind.i32 31) = -1 := by decide +kernel
theorem uma : bi .and .none (.int .i32 65533) (.int .i32 (-1)) = M.pure (.int .i32 65533) := rfl
theorem or_err : bi .or .none (.int .i32 0) (.int .i32 65533) = M.pure (.int .i32 65533) := rfl
theorem ume {p : List UInt8} (hp : p.length < 2 ^ 61) (h0 : 0 < p.length) (h128 : 128 ≤ bN p 0) :
    ∃ r, (letN p.length (bN p 0) (bN p 1) (bN p 2) (bN p 3) = 0 → r = 65533) ∧ ∀ H, run (C u0y [BS z p]) H = some (.ok (.tup [.int .i32 r, .int .i64 (max 1 (letN p.length (bN p 0) (bN p 1) (bN p 2) (bN p 3)) : Nat)]) H) := by
  have hf := u5t (bN p 0)
  have hia := fun K => u8f (H := K) (c := bN p 0) bN_lt
  have hac := fun K => uep (H := K) (i := Lib.firstT (bN p 0) / 16) (by omega)
  have w1 : IntKind.i64.wrap ((Lib.firstT (bN p 0) % 8 : Nat) : Int) = ((Lib.firstT (bN p 0) % 8 : Nat) : Int) := w_i64 (by omega)
  have s4 := ue6 hf
  have a7 := uef (c := bN p 0)
  have r0 := fun K => iaB (H := K) (z := z) h0
  have r1 := fun (h : 1 < p.length) K => iaB (H := K) (z := z) h
  have r2 := fun (h : 2 < p.length) K => iaB (H := K) (z := z) h
  have r3 := fun (h : 3 < p.length) K => iaB (H := K) (z := z) h
  simp only [show ((0 : Nat) : Int) = 0 from rfl, show ((1 : Nat) : Int) = 1 from rfl, show ((2 : Nat) : Int) = 2 from rfl, show ((3 : Nat) : Int) = 3 from rfl] at r0 r1 r2 r3
  have n0 : ((p.length : Int) < 1) = False := eq_false (by omega)
  rw [u2p]
  unfold letN
  rw [if_neg (by omega)]
  by_cases hx : 240 ≤ Lib.firstT (bN p 0)
  · have ex := u6v h128 hx
    rw [ex] at hia
    refine ⟨65533, fun _ => rfl, fun H => ?_⟩
    rw [if_pos hx]
    simp +contextual -dsimp (disch := omega) only [↓goDown, goUp, cr, simprocAttr, List.length_map, n0, r0, hia, u34, u3s, umf, uh3, uma, or_err] <;> rfl
  · have hm := u47 h128 hx
    have hx' : ((240 : Int) ≤ (Lib.firstT (bN p 0) : Int)) = False := eq_false (by omega)
    rw [if_neg hx]
    generalize hxx : Lib.firstT (bN p 0) = x at *
    have x16 : x / 16 < 16 := by omega
    by_cases hn : p.length < x % 8
    · have hn' : ((p.length : Int) < ((x % 8 : Nat) : Int)) = True := eq_true (by omega)
      refine ⟨65533, fun _ => rfl, fun H => ?_⟩
      rw [if_pos hn]
      simp +contextual -dsimp (disch := omega) only [↓goDown, goUp, cr, simprocAttr, List.length_map, n0, r0, hia, hx', a7, w1, s4, hac, hn'] <;> rfl
    · have hn' : ((p.length : Int) < ((x % 8 : Nat) : Int)) = False := eq_false (by omega)
      rw [if_neg hn]
      have r1 := r1 (by omega)
      generalize bN p 1 = c1 at *
      by_cases hlo : c1 < Lib.accLo (x / 16)
      · have hlo' : ((c1 : Int) < (Lib.accLo (x / 16) : Int)) = True := eq_true (by omega)
        refine ⟨65533, fun _ => rfl, fun H => ?_⟩
        rw [if_pos (.inl hlo)]
        simp +contextual -dsimp (disch := omega) only [↓goDown, goUp, cr, simprocAttr, List.length_map, n0, r0, hia, hx', a7, w1, s4, hac, hn', r1, hlo'] <;> rfl
      · have hlo' : ((c1 : Int) < (Lib.accLo (x / 16) : Int)) = False := eq_false (by omega)
        by_cases hhi : Lib.accHi (x / 16) < c1
        · have hhi' : ((Lib.accHi (x / 16) : Int) < (c1 : Int)) = True := eq_true (by omega)
          refine ⟨65533, fun _ => rfl, fun H => ?_⟩
          rw [if_pos (.inr hhi)]
          simp +contextual -dsimp (disch := omega) only [↓goDown, goUp, cr, simprocAttr, List.length_map, n0, r0, hia, hx', a7, w1, s4, hac, hn', r1, hlo', hhi'] <;> rfl
        · have hhi' : ((Lib.accHi (x / 16) : Int) < (c1 : Int)) = False := eq_false (by omega)
          rw [if_neg (fun h => by omega)]
          by_cases g2 : x % 8 ≤ 2
          · have g2' : (((x % 8 : Nat) : Int) ≤ 2) = True := eq_true (by omega)
            rw [if_pos g2]
            apply Exists.intro
            refine And.intro (fun h => absurd h (by decide)) ?_
            intro H
            simp +contextual -dsimp (disch := omega) only [↓goDown, goUp, cr, simprocAttr, List.length_map, n0, r0, hia, hx', a7, w1, s4, hac, hn', r1, hlo', hhi', g2', u36, run_or, u34]
            rfl
          · have g2' : (((x % 8 : Nat) : Int) ≤ 2) = False := eq_false (by omega)
            rw [if_neg g2]
            have r2 := r2 (by omega)
            generalize bN p 2 = c2 at *
            by_cases l2 : c2 < 128
            · have l2' : ((c2 : Int) < 128) = True := eq_true (by omega)
              refine ⟨65533, fun _ => rfl, fun H => ?_⟩
              rw [if_pos (.inl l2)]
              simp +contextual -dsimp (disch := omega) only [↓goDown, goUp, cr, simprocAttr, List.length_map, n0, r0, hia, hx', a7, w1, s4, hac, hn', r1, hlo', hhi', g2', r2, l2'] <;> rfl
            · have l2' : ((c2 : Int) < 128) = False := eq_false (by omega)
              by_cases u2 : 191 < c2
              · have u2' : ((191 : Int) < (c2 : Int)) = True := eq_true (by omega)
                refine ⟨65533, fun _ => rfl, fun H => ?_⟩
                rw [if_pos (.inr u2)]
                simp +contextual -dsimp (disch := omega) only [↓goDown, goUp, cr, simprocAttr, List.length_map, n0, r0, hia, hx', a7, w1, s4, hac, hn', r1, hlo', hhi', g2', r2, l2', u2'] <;> rfl
              · have u2' : ((191 : Int) < (c2 : Int)) = False := eq_false (by omega)
                rw [if_neg (fun h => by omega)]
                by_cases g3 : x % 8 ≤ 3
                · have g3' : (((x % 8 : Nat) : Int) ≤ 3) = True := eq_true (by omega)
                  rw [if_pos g3]
                  apply Exists.intro
                  refine And.intro (fun h => absurd h (by decide)) ?_
                  intro H
                  simp +contextual -dsimp (disch := omega) only [↓goDown, goUp, cr, simprocAttr, List.length_map, n0, r0, hia, hx', a7, w1, s4, hac, hn', r1, hlo', hhi', g2', r2, l2', u2', g3', u36, run_or, u34]
                  rfl
                · have g3' : (((x % 8 : Nat) : Int) ≤ 3) = False := eq_false (by omega)
                  rw [if_neg g3]
                  have r3 := r3 (by omega)
                  generalize bN p 3 = c3 at *
                  by_cases l3 : c3 < 128
                  · have l3' : ((c3 : Int) < 128) = True := eq_true (by omega)
                    refine ⟨65533, fun _ => rfl, fun H => ?_⟩
                    rw [if_pos (.inl l3)]
                    simp +contextual -dsimp (disch := omega) only [↓goDown, goUp, cr, simprocAttr, List.length_map, n0, r0, hia, hx', a7, w1, s4, hac, hn', r1, hlo', hhi', g2', r2, l2', u2', g3', r3, l3'] <;> rfl
                  · have l3' : ((c3 : Int) < 128) = False := eq_false (by omega)
                    by_cases u3 : 191 < c3
                    · have u3' : ((191 : Int) < (c3 : Int)) = True := eq_true (by omega)
                      refine ⟨65533, fun _ => rfl, fun H => ?_⟩
                      rw [if_pos (.inr u3)]
                      simp +contextual -dsimp (disch := omega) only [↓goDown, goUp, cr, simprocAttr, List.length_map, n0, r0, hia, hx', a7, w1, s4, hac, hn', r1, hlo', hhi', g2', r2, l2', u2', g3', r3, l3', u3'] <;> rfl
                    · have u3' : ((191 : Int) < (c3 : Int)) = False := eq_false (by omega)
                      rw [if_neg (fun h => by omega)]
                      apply Exists.intro
                      refine And.intro (fun h => absurd h (by decide)) ?_
                      intro H
                      simp +contextual -dsimp (disch := omega) only [↓goDown, goUp, cr, simprocAttr, List.length_map, n0, r0, hia, hx', a7, w1, s4, hac, hn', r1, hlo', hhi', g2', r2, l2', u2', g3', r3, l3', u3', u36, run_or, u34]
                      rfl
def letL (p : List UInt8) : Nat := letN p.length (bN p 0) (bN p 1) (bN p 2) (bN p 3)
theorem dec_is {p : List UInt8} (hp : p.length < 2 ^ 61) (h0 : 0 < p.length) :
    ∃ r : Int, (letL p = 0 → r = 65533) ∧ (letL p = 1 → r ≠ 65533) ∧ ∀ K, run (C u0q [BS z p]) K = some (.ok (.tup [.int .i32 r, .int .i64 (max 1 (letL p) : Nat)]) K) := by
  have r0 := fun K => iaB (H := K) (z := z) h0
  simp only [show ((0 : Nat) : Int) = 0 from rfl] at r0
  have n0 : ((0 : Int) < (p.length : Int)) = True := eq_true (by omega)
  by_cases h128 : bN p 0 < 128
  · have e : letL p = 1 := by unfold letL letN; rw [if_pos h128]
    have h' : ((bN p 0 : Int) < 128) = True := eq_true (by omega)
    refine ⟨(bN p 0 : Nat), fun h => by omega, fun h => by omega, fun K => ?_⟩
    rw [u1x, e]
    simp +contextual -dsimp (disch := omega) only [↓goDown, goUp, cr, simprocAttr, u19, List.length_map, n0, r0, h'] <;> rfl
  · have h' : ((bN p 0 : Int) < 128) = False := eq_false (by omega)
    obtain ⟨r, hr, hs⟩ := ume (z := z) hp h0 (by omega)
    have hne : letL p ≠ 1 := by
      unfold letL letN
      rw [if_neg h128]
      repeat' split
      all_goals decide
    refine ⟨r, hr, fun h => absurd h hne, fun K => ?_⟩
    rw [u1x]
    simp +contextual -dsimp (disch := omega) only [↓goDown, goUp, cr, simprocAttr, u19, u2l, List.length_map, n0, r0, h', hs] <;> rfl
end Go.Proofs.YtiamjepnlnjlfaaDoor.Pi.Q
namespace Go.Proofs.YtiamjepnlnjlfaaDoor.Pi.Q
open Go Go.Proofs.YtiamjepnlnjlfaaDoor.Pi
theorem uc7 {n c0 c1 c2 c3 : Nat} (h0 : 128 ≤ c0) : letN n c0 c1 c2 c3 = (Lib.checkN n c1 c2 c3 (Lib.firstT c0 % 8) (Lib.accLo (Lib.firstT c0 / 16)) (Lib.accHi (Lib.firstT c0 / 16))).getD 0 := by
  unfold letN
  rw [if_neg (by omega)]
  by_cases hx : 240 ≤ Lib.firstT c0
  · rw [if_pos hx, u6v h0 hx]
    rfl
  · have hm := u47 h0 hx
    rw [if_neg hx]
    generalize Lib.accLo (Lib.firstT c0 / 16) = lo
    generalize Lib.accHi (Lib.firstT c0 / 16) = hi
    generalize Lib.firstT c0 % 8 = s at *
    unfold Lib.checkN
    rcases hm with rfl | rfl | rfl <;> simp only [Nat.reduceEqDiff, Nat.reduceLeDiff, ↓reduceIte] <;> repeat' split
    all_goals first | rfl | (exfalso; omega)
theorem uic {n c0 c1 c2 c3 : Nat} (hn : 1 ≤ n) (h0 : c0 < 256) (h1 : c1 < 256) (h2 : c2 < 256) (h3 : c3 < 256) (h : letN n c0 c1 c2 c3 ≠ 0) : (Lib.decodeN n c0 c1 c2 c3).2 = letN n c0 c1 c2 c3 := by
  by_cases ha : c0 < 128
  · unfold letN Lib.decodeN
    rw [if_pos ha, if_pos ha]
  · have e := uc7 (n := n) (c1 := c1) (c2 := c2) (c3 := c3) (show 128 ≤ c0 by omega)
    rcases Lib.check_decode n c0 c1 c2 c3 hn (by omega) h0 h1 h2 h3 with ⟨g1, g2⟩ | ⟨k, g1, g2, g3⟩
    · rw [g1] at e; exact absurd e h
    · rw [g2] at e; rw [g3, e]; rfl
end Go.Proofs.YtiamjepnlnjlfaaDoor.Pi.Q
namespace Go.Proofs.YtiamjepnlnjlfaaDoor.Pi.Q
open Go Go.Proofs.YtiamjepnlnjlfaaDoor.Pi
def opF (c0 c1 c2 : Nat) : Nat → Nat
  | 0 => 0
  | n + 1 => if n + 1 < 4 ∧ fullN (n + 1) c0 c1 c2 = false then n + 1 else opF c0 c1 c2 n
theorem uaf {x : List UInt8} {n i : Nat} (h : i < n) : bN (x.take n) i = bN x i := by
  unfold bN
  rw [List.getD_eq_getElem?_getD, List.getD_eq_getElem?_getD, List.getElem?_take, if_pos h]
theorem ukn {x : List UInt8} {n : Nat} (h : n ≤ x.length) : fullL (x.take n) = fullN n (bN x 0) (bN x 1) (bN x 2) := by
  unfold fullL
  rw [List.length_take, Nat.min_eq_left h]
  unfold fullN
  by_cases h0 : n = 0
  · rw [if_pos h0, if_pos h0]
  · rw [if_neg h0, if_neg h0, uaf (by omega)]
    split
    · rfl
    · by_cases h1 : 1 < n
      · rw [uaf h1]
        split
        · rfl
        · by_cases h2 : 2 < n
          · rw [uaf h2]
          · rw [decide_eq_false (by omega), decide_eq_false (by omega)]
      · rw [if_neg (by omega), if_neg (by omega), decide_eq_false (by omega), decide_eq_false (by omega)]
theorem umi {n c0 c1 c2 c3 : Nat} (hn : 1 ≤ n) : letN n c0 c1 c2 c3 ≤ n := by
  by_cases h0 : c0 < 128
  · unfold letN
    rw [if_pos h0]
    exact hn
  · by_cases hx : 240 ≤ Lib.firstT c0
    · unfold letN
      rw [if_neg h0, if_pos hx]
      exact Nat.zero_le _
    · have hm := u47 (by omega) hx
      unfold letN
      rw [if_neg h0, if_neg hx]
      generalize Lib.firstT c0 % 8 = s at *
      repeat' split
      all_goals omega
theorem u96 {b : List UInt8} {a : Nat} (ha : a < b.length) : a + letL (b.drop a) ≤ b.length := by
  have := umi (n := (b.drop a).length) (c0 := bN (b.drop a) 0) (c1 := bN (b.drop a) 1) (c2 := bN (b.drop a) 2) (c3 := bN (b.drop a) 3) (by rw [List.length_drop]; omega)
  rw [List.length_drop] at this
  unfold letL
  rw [List.length_drop]
  omega
attribute [local congr] ite_congr
variable {H : Heap} {z : Bool}
theorem uin {x : List UInt8} {n : Nat} (h : n ≤ x.length) : run (slL 1 (BS z x) none (some (.int .i64 n))) H = some (.ok (BS z (x.take n)) H) := by
  unfold run slL bnd
  have h0 : decide ((0 : Int) ≤ (n : Int)) = true := decide_eq_true (by omega)
  simp only [h0, cond_true, Int.toNat_natCast, beq_self_eq_true, Bool.or_true, Bool.true_and, List.length_map, Nat.zero_le, decide_true, decide_eq_true h, List.drop_zero, M.pure, bytes, ← List.map_take]
theorem sl_lo {x : List UInt8} {n : Nat} (h : n ≤ x.length) : run (slL 1 (BS z x) (some (.int .i64 n)) none) H = some (.ok (BS z (x.drop n)) H) := by
  unfold run slL bnd
  have h0 : decide ((0 : Int) ≤ (n : Int)) = true := decide_eq_true (by omega)
  simp only [h0, cond_true, Int.toNat_natCast, beq_self_eq_true, Bool.or_true, Bool.true_and, List.length_map, Nat.le_refl, decide_true, decide_eq_true h, Bool.and_self, M.pure, bytes]
  rw [List.take_of_length_le (by rw [List.length_map]; exact Nat.le_refl _), ← List.map_drop]
theorem ued {x : List UInt8} {n m : Nat} (h : n ≤ m) (h' : m ≤ x.length) : run (slL 1 (BS z x) (some (.int .i64 n)) (some (.int .i64 m))) H = some (.ok (BS z ((x.take m).drop n)) H) := by
  unfold run slL bnd
  have h0 : decide ((0 : Int) ≤ (n : Int)) = true := decide_eq_true (by omega)
  have h1 : decide ((0 : Int) ≤ (m : Int)) = true := decide_eq_true (by omega)
  simp only [h0, h1, cond_true, Int.toNat_natCast, beq_self_eq_true, Bool.or_true, Bool.true_and, List.length_map, decide_eq_true h, decide_eq_true h', Bool.and_self, M.pure, bytes, ← List.map_take, ← List.map_drop]
theorem ub6 {x : List UInt8} {v2 : PV} (hx : x.length < 2 ^ 60) : ∀ (n : Nat), n ≤ x.length → run (u1a (BS z x) v2 (.int .i64 n)) H = some (.ok (.int .i64 (opF (bN x 0) (bN x 1) (bN x 2) n : Nat)) H)
  | 0, h => by
    rw [u2b]
    simp +contextual -dsimp (disch := omega) only [↓goDown, goUp, cr, simprocAttr, opF, show ((0 : Nat) : Int) = 0 from rfl, Int.lt_irrefl]
  | n + 1, h => by
    have ih := ub6 hx (v2 := v2) n (by omega)
    have hs := fun K => uin (H := K) (z := z) h
    have hfu := fun K => umg (H := K) (z := z) (p := x.take (n + 1)) (by rw [List.length_take]; omega)
    have e1 : (((n + 1 : Nat) : Int) - 1) = ((n : Nat) : Int) := by omega
    have g0 : ((0 : Int) < ((n + 1 : Nat) : Int)) = True := eq_true (by omega)
    rw [ukn h] at hfu
    rw [u2b, opF]
    by_cases h4 : n + 1 < 4
    · have h4' : (((n + 1 : Nat) : Int) < 4) = True := eq_true (by omega)
      cases hf : fullN (n + 1) (bN x 0) (bN x 1) (bN x 2) with
      | false =>
        rw [hf] at hfu
        rw [if_pos ⟨h4, rfl⟩]
        simp +contextual -dsimp (disch := omega) only [↓goDown, goUp, cr, simprocAttr, g0, h4', hs, hfu, un_not]
      | true =>
        rw [hf] at hfu
        rw [if_neg (fun g => by cases g.2)]
        simp +contextual -dsimp (disch := omega) only [↓goDown, goUp, cr, simprocAttr, g0, h4', hs, hfu, un_not, e1, ih]
    · have h4' : (((n + 1 : Nat) : Int) < 4) = False := eq_false (by omega)
      rw [if_neg (fun g => h4 g.1)]
      simp +contextual -dsimp (disch := omega) only [↓goDown, goUp, cr, simprocAttr, g0, h4', e1, ih]
theorem uml {x : List UInt8} (hx : x.length < 2 ^ 60) : run (C u2e [BS z x]) H = some (.ok (.int .i64 (opF (bN x 0) (bN x 1) (bN x 2) x.length : Nat)) H) := by
  have h := ub6 (H := H) (z := z) (v2 := .int .i64 0) hx x.length (Nat.le_refl _)
  rw [u6n]
  simp +contextual -dsimp (disch := omega) only [↓goDown, goUp, cr, simprocAttr, List.length_map, h]
def badAt (b : List UInt8) : Nat → Nat → Option Nat
  | 0, _ => none
  | f + 1, a => if a < b.length then (if letL (b.drop a) = 0 then some (a + opF (bN b a) (bN b (a + 1)) (bN b (a + 2)) (min 4 (b.length - a))) else badAt b f (a + letL (b.drop a))) else none
def utfR (o : Option Nat) : PV := match o with | none => .tup [.int .i64 0, .bool true] | some a => .tup [.int .i64 a, .bool false]
theorem uet {b : List UInt8} {a i : Nat} : bN (b.drop a) i = bN b (a + i) := by
  unfold bN
  rw [List.getD_eq_getElem?_getD, List.getD_eq_getElem?_getD, List.getElem?_drop]
theorem u0f {b : List UInt8} : (ByteArray.mk ⟨b⟩).size = b.length := rfl
end Go.Proofs.YtiamjepnlnjlfaaDoor.Pi.Q
namespace Go.Proofs.YtiamjepnlnjlfaaDoor.Pi.Q
open Go Go.Proofs.YtiamjepnlnjlfaaDoor.Pi
theorem u59 : ∀ u : List UInt8, u37 (bytes u) = some u
  | [] => rfl
  | c :: r => by
    have ih := u59 r
    have e : u37 (bytes (c :: r)) = (u37 (bytes r)).map (UInt8.ofNat ((c.toNat : Int)).toNat :: ·) := rfl
    rw [e, ih]
    simp
theorem get_bN {b : List UInt8} {i : Nat} : ((ByteArray.mk ⟨b⟩).get! i).toNat = bN b i := by
  unfold bN ByteArray.get!
  congr 1
  simp [List.getD_eq_getElem?_getD, getElem!_def]
  cases b[i]? <;> rfl
theorem ui9 {b : List UInt8} {a : Nat} (ha : a < b.length) (h : letL (b.drop a) ≠ 0) : (Utf8.decode (ByteArray.mk ⟨b⟩) a).2 = letL (b.drop a) := by
  rw [Lib.decode_at]
  simp only [get_bN]
  unfold letL at h ⊢
  simp only [uet, List.length_drop, Nat.add_zero] at h ⊢
  exact uic (n := b.length - a) (by omega) bN_lt bN_lt bN_lt bN_lt h
theorem bN_cut {b : List UInt8} {a i : Nat} (hi : i ≤ 2) : bN ((b.take (min b.length (a + 4))).drop a) i = bN b (a + i) := by
  rw [uet]
  by_cases h : a + i < b.length
  · exact uaf (by omega)
  · unfold bN
    rw [List.getD_eq_getElem?_getD, List.getD_eq_getElem?_getD, List.getElem?_eq_none (by rw [List.length_take]; omega), List.getElem?_eq_none (by omega)]
attribute [local congr] ite_congr
variable {H : Heap} {z : Bool}
theorem cv_BS {o : Bool} {u : List UInt8} : run (cv .bytesToStr o (BS z u)) H = some (.ok (.str ⟨⟨u⟩⟩) H) := by
  unfold run cv
  simp only [u59]
  rfl
theorem run_rg {s : ByteArray} : run (rg (.str s)) H = some (.ok (.ptr H.length 0) (hadd H [.iter s 0])) := nrfl rfl
def nxR (n : Nat) (K : Heap) : Option Box → Option (Out PV)
  | some (.iter s pos) => bif decide (pos < s.size) then some (.ok (.tup [.bool true, .int .i64 pos, .int .i32 (Utf8.decode s pos).1]) (K.set n (.iter s (pos + (Utf8.decode s pos).2)))) else some (.ok (.tup [.bool false]) K)
  | _ => none
theorem nx_is {n : Nat} {K : Heap} : nx (.ptr n 0) K = nxR n K K[n]? := by
  unfold nxR
  rfl
theorem umm {n : Nat} {K : Heap} {s : ByteArray} {pos : Nat} (h : K[n]? = some (.iter s pos)) : nx (.ptr n 0) K = if pos < s.size then some (.ok (.tup [.bool true, .int .i64 pos, .int .i32 (Utf8.decode s pos).1]) (K.set n (.iter s (pos + (Utf8.decode s pos).2)))) else some (.ok (.tup [.bool false]) K) := by
  rw [nx_is, h]
  unfold nxR
  by_cases hp : pos < s.size
  · rw [if_pos hp]; simp only [decide_eq_true hp, cond_true]
  · rw [if_neg hp]; simp only [decide_eq_false hp, cond_false]
theorem run_nx {s : ByteArray} {a : Nat} : run (nx (.ptr (List.length H) 0)) (hadd H [.iter s a]) = if a < s.size then some (.ok (.tup [.bool true, .int .i64 a, .int .i32 (Utf8.decode s a).1]) (hadd H [.iter s (a + (Utf8.decode s a).2)])) else some (.ok (.tup [.bool false]) (hadd H [.iter s a])) := by
  have hg : (hadd H [.iter s a])[List.length H]? = some (.iter s a) := by unfold hadd; simp
  have hs : ∀ y, List.set (hadd H [.iter s a]) (List.length H) y = hadd H [y] := fun y => by unfold hadd; simp
  unfold run
  rw [umm hg, hs]
theorem umx {k : IntKind} {a b : Int} : run (mn (.int k a) (.int k b)) H = some (.ok (.int k (if b < a then b else a)) H) := by
  unfold run mn
  simp only [decide_true, cond_true]
  rfl
theorem ugl {b : List UInt8} {v2 v3 : PV} (hb : b.length < 2 ^ 60) : ∀ (f a : Nat), b.length - a < f → a ≤ b.length →
    ∃ q, run (u1v (BS z b) v2 v3 (.ptr (List.length H) 0)) (hadd H [.iter (ByteArray.mk ⟨b⟩) a]) = some (.ok (utfR (badAt b f a)) (hadd H [.iter (ByteArray.mk ⟨b⟩) q]))
  | 0, a, h, ha => by omega
  | f + 1, a, h, ha => by
    have hnx := run_nx (H := H) (s := ByteArray.mk ⟨b⟩) (a := a)
    rw [show (ByteArray.mk ⟨b⟩).size = b.length from rfl] at hnx
    rw [badAt]
    by_cases hl : a < b.length
    · rw [if_pos hl] at hnx ⊢
      have hs := fun K => sl_lo (H := K) (z := z) (Nat.le_of_lt hl)
      obtain ⟨r, r0, r1, hd⟩ := dec_is (z := z) (p := b.drop a) (by rw [List.length_drop]; omega) (by rw [List.length_drop]; omega)
      by_cases h0 : letL (b.drop a) = 0
      · rw [if_pos h0]
        rw [h0] at hd
        have hr := r0 h0
        subst hr
        have e4 : ((a : Int) + 4) = ((a + 4 : Nat) : Int) := rfl
        have w4 : IntKind.i64.wrap ((a + 4 : Nat) : Int) = ((a + 4 : Nat) : Int) := w_i64 (by omega)
        have em : (if ((a + 4 : Nat) : Int) < (b.length : Int) then ((a + 4 : Nat) : Int) else (b.length : Int)) = ((min b.length (a + 4) : Nat) : Int) := by
          split <;> omega
        have hs2 := fun K => ued (H := K) (z := z) (x := b) (n := a) (m := min b.length (a + 4)) (by omega) (by omega)
        have ho := fun K => uml (H := K) (z := z) (x := (b.take (min b.length (a + 4))).drop a) (by rw [List.length_drop, List.length_take]; omega)
        have el : ((b.take (min b.length (a + 4))).drop a).length = min 4 (b.length - a) := by rw [List.length_drop, List.length_take]; omega
        rw [bN_cut (by omega), bN_cut (by omega), bN_cut (by omega), el, Nat.add_zero] at ho
        have hol : opF (bN b a) (bN b (a + 1)) (bN b (a + 2)) (min 4 (b.length - a)) ≤ 4 := by
          have : ∀ n, opF (bN b a) (bN b (a + 1)) (bN b (a + 2)) n ≤ n := fun n => by
            induction n with
            | zero => exact Nat.le_refl _
            | succ n ih => rw [opF]; split <;> omega
          have := this (min 4 (b.length - a))
          omega
        generalize opF (bN b a) (bN b (a + 1)) (bN b (a + 2)) (min 4 (b.length - a)) = o at *
        have ea : ((a : Int) + (o : Int)) = ((a + o : Nat) : Int) := rfl
        have wa : IntKind.i64.wrap ((a + o : Nat) : Int) = ((a + o : Nat) : Int) := w_i64 (by omega)
        refine ⟨a + (Utf8.decode (ByteArray.mk ⟨b⟩) a).2, ?_⟩
        rw [u1z]
        simp +contextual -dsimp (disch := omega) only [↓goDown, goUp, cr, simprocAttr, hnx, hs, hd, List.length_map, e4, w4, umx, em, hs2, ho, ea, wa, utfR, show ((max 1 0 : Nat) : Int) = 1 from rfl]
      · rw [if_neg h0]
        have hw := ui9 hl h0
        rw [hw] at hnx
        have hle := u96 hl
        obtain ⟨q, ih⟩ := ugl hb (v2 := v2) (v3 := v3) f (a + letL (b.drop a)) (by omega) hle
        have hm : max 1 (letL (b.drop a)) = letL (b.drop a) := by omega
        rw [hm] at hd
        refine ⟨q, ?_⟩
        rw [u1z]
        by_cases hr : r = 65533
        · have hr' : (r = 65533) = True := eq_true hr
          have h1 : ¬ letL (b.drop a) = 1 := fun g => r1 g hr
          have g1 : (((letL (b.drop a) : Nat) : Int) ≤ 1) = False := eq_false (by omega)
          simp +contextual -dsimp (disch := omega) only [↓goDown, goUp, cr, simprocAttr, hnx, hs, hd, List.length_map, hr', g1, ih]
        · have hr' : (r = 65533) = False := eq_false hr
          simp +contextual -dsimp (disch := omega) only [↓goDown, goUp, cr, simprocAttr, hnx, hs, hd, List.length_map, hr', ih]
    · rw [if_neg hl] at hnx ⊢
      refine ⟨a, ?_⟩
      rw [u1z]
      simp +contextual -dsimp (disch := omega) only [↓goDown, goUp, cr, simprocAttr, hnx, utfR]
theorem ujj {o : Option Nat} {n : Nat} : (utfR o).low n = true := by cases o <;> simp [utfR, u7e, u4g, u3m, u5w, uav]
def utfN (b : List UInt8) : Option Nat := badAt b (b.length + 1) 0
theorem ui3 {b : List UInt8} (hb : b.length < 2 ^ 60) : run (C u2r [BS z b]) H = some (.ok (utfR (utfN b)) H) := by
  have hc := fun K o => cv_BS (H := K) (z := z) (o := o) (u := b)
  obtain ⟨q, h⟩ := ugl (H := H) (z := z) (v2 := .int .i64 0) (v3 := .bool false) hb (b.length + 1) 0 (by omega) (by omega)
  rw [uab]
  simp +contextual -dsimp (disch := omega) only [↓goDown, goUp, cr, simprocAttr, hc, run_rg, h, utfN, ujj]
end Go.Proofs.YtiamjepnlnjlfaaDoor.Pi.Q
namespace Go.Proofs.YtiamjepnlnjlfaaDoor.Pi.Q
open Go Go.Proofs.YtiamjepnlnjlfaaDoor.Pi
def ltN (c : Nat) : Nat := if c < 128 then 1 else if 194 ≤ c ∧ c ≤ 223 then 2 else if 224 ≤ c ∧ c ≤ 239 then 3 else if 240 ≤ c ∧ c ≤ 244 then 4 else 0
def loR (f k : Nat) : Nat := if k = 1 then (if f = 224 then 160 else if f = 240 then 144 else 128) else 128
def hiR (f k : Nat) : Nat := if k = 1 then (if f = 237 then 159 else if f = 244 then 143 else 191) else 191
def folR (f k c : Nat) : Bool := decide (loR f k ≤ c ∧ c ≤ hiR f k)
theorem uld : ∀ c ∈ List.range 256, ltN c = (if c < 128 then 1 else if 240 ≤ Lib.firstT c then 0 else Lib.firstT c % 8) ∧ (128 ≤ c → ¬ 240 ≤ Lib.firstT c → Lib.accLo (Lib.firstT c / 16) = loR c 1 ∧ Lib.accHi (Lib.firstT c / 16) = hiR c 1) := by decide +kernel
def goR (b : List UInt8) (a n : Nat) : Nat → Nat → Option Nat
  | 0, _ => none
  | f + 1, k => if k < n then (if b.length ≤ a + k then some b.length else if folR (bN b a) k (bN b (a + k)) = false then some (a + k) else goR b a n f (k + 1)) else none
def badR (b : List UInt8) : Nat → Nat → Option Nat
  | 0, _ => none
  | f + 1, a => if a < b.length then (if ltN (bN b a) = 0 then some a else match goR b a (ltN (bN b a)) 5 1 with | some x => some x | none => badR b f (a + ltN (bN b a))) else none
theorem uak {n c0 c1 c2 : Nat} (h0 : n ≠ 0) : fullN n c0 c1 c2 = false ↔ (n < Lib.firstT c0 % 8 ∧ (1 < n → Lib.accLo (Lib.firstT c0 / 16) ≤ c1 ∧ c1 ≤ Lib.accHi (Lib.firstT c0 / 16)) ∧ (2 < n → 128 ≤ c2 ∧ c2 ≤ 191)) := by
  unfold fullN
  rw [if_neg h0]
  by_cases h1 : Lib.firstT c0 % 8 ≤ n
  · rw [if_pos h1]; simp; omega
  · rw [if_neg h1]
    by_cases h2 : 1 < n ∧ (c1 < Lib.accLo (Lib.firstT c0 / 16) ∨ Lib.accHi (Lib.firstT c0 / 16) < c1)
    · rw [if_pos h2]; simp; omega
    · rw [if_neg h2, decide_eq_false_iff_not]
      omega
theorem opF_is {c0 c1 c2 m : Nat} (hm : m ≤ 4) : opF c0 c1 c2 m = if m = 0 ∨ Lib.firstT c0 % 8 ≤ 1 then 0 else if m = 1 ∨ Lib.firstT c0 % 8 ≤ 2 ∨ c1 < Lib.accLo (Lib.firstT c0 / 16) ∨ Lib.accHi (Lib.firstT c0 / 16) < c1 then 1
    else if m = 2 ∨ Lib.firstT c0 % 8 ≤ 3 ∨ c2 < 128 ∨ 191 < c2 then 2 else 3 := by
  have n1 := uak (n := 1) (c0 := c0) (c1 := c1) (c2 := c2) (by decide)
  have n2 := uak (n := 2) (c0 := c0) (c1 := c1) (c2 := c2) (by decide)
  have n3 := uak (n := 3) (c0 := c0) (c1 := c1) (c2 := c2) (by decide)
  generalize fullN 1 c0 c1 c2 = f1 at *
  have hx := u5t c0
  have h : m = 0 ∨ m = 1 ∨ m = 2 ∨ m = 3 ∨ m = 4 := by omega
  have u0 : opF c0 c1 c2 0 = 0 := rfl
  have u1 : opF c0 c1 c2 1 = if fullN 1 c0 c1 c2 = false then 1 else 0 := by rw [opF]; simp [u0]
  have u2 : opF c0 c1 c2 2 = if fullN 2 c0 c1 c2 = false then 2 else opF c0 c1 c2 1 := by rw [opF]; simp
  have u3 : opF c0 c1 c2 3 = if fullN 3 c0 c1 c2 = false then 3 else opF c0 c1 c2 2 := by rw [opF]; simp
  have u4 : opF c0 c1 c2 4 = opF c0 c1 c2 3 := by rw [opF]; simp
  have n1' := uak (n := 1) (c0 := c0) (c1 := c1) (c2 := c2) (by decide)
  generalize Lib.accLo (Lib.firstT c0 / 16) = lo at *
  generalize Lib.accHi (Lib.firstT c0 / 16) = hi at *
  generalize Lib.firstT c0 % 8 = s at *
  rcases h with rfl | rfl | rfl | rfl | rfl
  · rw [u0, if_pos (.inl rfl)]
  · rw [u1]
    by_cases g : fullN 1 c0 c1 c2 = false
    · rw [if_pos g, if_neg (by have := n1'.mp g; omega), if_pos (.inl rfl)]
    · rw [if_neg g, if_pos (Classical.byContradiction fun q => g (n1'.mpr (by omega)))]
  · rw [u2, u1]
    by_cases g : fullN 2 c0 c1 c2 = false
    · have := n2.mp g
      rw [if_pos g, if_neg (by omega), if_neg (by omega), if_pos (by omega)]
    · have q2 : ¬ _ := fun q => g (n2.mpr q)
      rw [if_neg g]
      by_cases g1 : fullN 1 c0 c1 c2 = false
      · have := n1'.mp g1
        rw [if_pos g1, if_neg (by omega), if_pos (by omega)]
      · have q1 : ¬ _ := fun q => g1 (n1'.mpr q)
        rw [if_neg g1, if_pos (by omega)]
  · rw [u3, u2, u1]
    by_cases g3 : fullN 3 c0 c1 c2 = false
    · have := n3.mp g3
      rw [if_pos g3, if_neg (by omega), if_neg (by omega), if_neg (by omega)]
    · have q3 : ¬ _ := fun q => g3 (n3.mpr q)
      rw [if_neg g3]
      by_cases g : fullN 2 c0 c1 c2 = false
      · have := n2.mp g
        rw [if_pos g, if_neg (by omega), if_neg (by omega), if_pos (by omega)]
      · have q2 : ¬ _ := fun q => g (n2.mpr q)
        rw [if_neg g]
        by_cases g1 : fullN 1 c0 c1 c2 = false
        · have := n1'.mp g1
          rw [if_pos g1, if_neg (by omega), if_pos (by omega)]
        · have q1 : ¬ _ := fun q => g1 (n1'.mpr q)
          rw [if_neg g1, if_pos (by omega)]
  · rw [u4, u3, u2, u1]
    by_cases g3 : fullN 3 c0 c1 c2 = false
    · have := n3.mp g3
      rw [if_pos g3, if_neg (by omega), if_neg (by omega), if_neg (by omega)]
    · have q3 : ¬ _ := fun q => g3 (n3.mpr q)
      rw [if_neg g3]
      by_cases g : fullN 2 c0 c1 c2 = false
      · have := n2.mp g
        rw [if_pos g, if_neg (by omega), if_neg (by omega), if_pos (by omega)]
      · have q2 : ¬ _ := fun q => g (n2.mpr q)
        rw [if_neg g]
        by_cases g1 : fullN 1 c0 c1 c2 = false
        · have := n1'.mp g1
          rw [if_pos g1, if_neg (by omega), if_pos (by omega)]
        · have q1 : ¬ _ := fun q => g1 (n1'.mpr q)
          rw [if_neg g1, if_pos (by omega)]
end Go.Proofs.YtiamjepnlnjlfaaDoor.Pi.Q
namespace Go.Proofs.YtiamjepnlnjlfaaDoor.Pi.Q
open Go Go.Proofs.YtiamjepnlnjlfaaDoor.Pi
theorem fol_no {f k c : Nat} : folR f k c = false ↔ c < loR f k ∨ hiR f k < c := by
  unfold folR
  rw [decide_eq_false_iff_not]
  omega
theorem lo_2 {f k : Nat} (h : k ≠ 1) : loR f k = 128 := by unfold loR; rw [if_neg h]
theorem hi_2 {f k : Nat} (h : k ≠ 1) : hiR f k = 191 := by unfold hiR; rw [if_neg h]
theorem goR_s {b : List UInt8} {a n f k : Nat} : goR b a n (f + 1) k = if k < n then (if b.length ≤ a + k then some b.length else if folR (bN b a) k (bN b (a + k)) = false then some (a + k) else goR b a n f (k + 1)) else none := rfl
theorem go_2 {b : List UInt8} {a : Nat} : goR b a 2 5 1 = if b.length ≤ a + 1 then some b.length else if folR (bN b a) 1 (bN b (a + 1)) = false then some (a + 1) else none := by
  rw [goR_s, if_pos (show 1 < 2 by decide), show goR b a 2 4 (1 + 1) = none from by rw [goR_s, if_neg (show ¬ 1 + 1 < 2 by decide)]]
theorem go_3 {b : List UInt8} {a : Nat} : goR b a 3 5 1 = if b.length ≤ a + 1 then some b.length else if folR (bN b a) 1 (bN b (a + 1)) = false then some (a + 1) else if b.length ≤ a + 2 then some b.length else if folR (bN b a) 2 (bN b (a + 2)) = false then some (a + 2) else none := by
  rw [goR_s, if_pos (show 1 < 3 by decide)]
  rw [show goR b a 3 4 (1 + 1) = if b.length ≤ a + 2 then some b.length else if folR (bN b a) 2 (bN b (a + 2)) = false then some (a + 2) else none from by
    rw [goR_s, if_pos (show 1 + 1 < 3 by decide), show goR b a 3 3 (1 + 1 + 1) = none from by rw [goR_s, if_neg (show ¬ 1 + 1 + 1 < 3 by decide)]]]
theorem go_4 {b : List UInt8} {a : Nat} : goR b a 4 5 1 = if b.length ≤ a + 1 then some b.length else if folR (bN b a) 1 (bN b (a + 1)) = false then some (a + 1) else if b.length ≤ a + 2 then some b.length else if folR (bN b a) 2 (bN b (a + 2)) = false then some (a + 2) else if b.length ≤ a + 3 then some b.length else if folR (bN b a) 3 (bN b (a + 3)) = false then some (a + 3) else none := by
  rw [goR_s, if_pos (show 1 < 4 by decide)]
  rw [show goR b a 4 4 (1 + 1) = if b.length ≤ a + 2 then some b.length else if folR (bN b a) 2 (bN b (a + 2)) = false then some (a + 2) else if b.length ≤ a + 3 then some b.length else if folR (bN b a) 3 (bN b (a + 3)) = false then some (a + 3) else none from by
    rw [goR_s, if_pos (show 1 + 1 < 4 by decide)]
    rw [show goR b a 4 3 (1 + 1 + 1) = if b.length ≤ a + 3 then some b.length else if folR (bN b a) 3 (bN b (a + 3)) = false then some (a + 3) else none from by
      rw [goR_s, if_pos (show 1 + 1 + 1 < 4 by decide), show goR b a 4 2 (1 + 1 + 1 + 1) = none from by rw [goR_s, if_neg (show ¬ 1 + 1 + 1 + 1 < 4 by decide)]]]]
theorem fin0 {G : Option Nat} {a x V O s k : Nat} (hs : s ≠ 0) (h1 : G = some x) (h2 : V = 0) (h3 : O = k) (h4 : x = a + k) : (if s = 0 then some a else G) = (if V = 0 then some (a + O) else none) ∧ (V ≠ 0 → V = s) := by
  rw [if_neg hs, if_pos h2, h1, h3, h4]
  exact ⟨rfl, fun h => absurd h2 h⟩
theorem fin1 {G : Option Nat} {a V O s : Nat} (hs : s ≠ 0) (h1 : G = none) (h2 : V = s) : (if s = 0 then some a else G) = (if V = 0 then some (a + O) else none) ∧ (V ≠ 0 → V = s) := by
  rw [if_neg hs, if_neg (by omega), h1]
  exact ⟨rfl, fun _ => h2⟩
theorem umu {b : List UInt8} {a : Nat} (ha : a < b.length) :
    (if ltN (bN b a) = 0 then some a else goR b a (ltN (bN b a)) 5 1) = (if letL (b.drop a) = 0 then some (a + opF (bN b a) (bN b (a + 1)) (bN b (a + 2)) (min 4 (b.length - a))) else none) ∧ (letL (b.drop a) ≠ 0 → letL (b.drop a) = ltN (bN b a)) := by
  have hm : min 4 (b.length - a) ≤ 4 := by omega
  rw [opF_is hm]
  unfold letL
  simp only [uet, List.length_drop, Nat.add_zero]
  obtain ⟨h1, h2⟩ := uld (bN b a) (List.mem_range.mpr bN_lt)
  unfold letN
  by_cases h0 : bN b a < 128
  · rw [if_pos h0] at h1
    rw [h1, if_pos h0]
    exact ⟨rfl, fun _ => rfl⟩
  · rw [if_neg h0] at h1 ⊢
    by_cases hx : 240 ≤ Lib.firstT (bN b a)
    · rw [if_pos hx] at h1
      rw [h1, if_pos hx, u6v (by omega) hx]
      simp
    · obtain ⟨l1, l2⟩ := h2 (by omega) hx
      rw [if_neg hx] at h1
      have hs := u47 (by omega) hx
      rw [if_neg hx, l1, l2, h1]
      have g1 := fol_no (f := bN b a) (k := 1) (c := bN b (a + 1))
      have g2 := fol_no (f := bN b a) (k := 2) (c := bN b (a + 2))
      have g3 := fol_no (f := bN b a) (k := 3) (c := bN b (a + 3))
      rw [lo_2 (by decide), hi_2 (by decide)] at g2 g3
      generalize loR (bN b a) 1 = lo at *
      generalize hiR (bN b a) 1 = hi at *
      have g20 := go_2 (b := b) (a := a)
      have g30 := go_3 (b := b) (a := a)
      have g40 := go_4 (b := b) (a := a)
      generalize b.length = L at *
      generalize folR (bN b a) 1 (bN b (a + 1)) = k1 at *
      generalize folR (bN b a) 2 (bN b (a + 2)) = k2 at *
      generalize folR (bN b a) 3 (bN b (a + 3)) = k3 at *
      generalize bN b (a + 1) = c1 at *
      generalize bN b (a + 2) = c2 at *
      generalize bN b (a + 3) = c3 at *
      clear h2 l1 l2
      generalize Lib.firstT (bN b a) % 8 = s at *
      clear h1 hx h0
      rcases hs with rfl | rfl | rfl
      · by_cases n1 : L ≤ a + 1
        · exact fin0 (x := L) (k := 1) (by decide) (by rw [g20, if_pos n1]) (by (repeat' split); all_goals omega) (by (repeat' split); all_goals omega) (by omega)
        · by_cases q1 : c1 < lo ∨ hi < c1
          · exact fin0 (x := a + 1) (k := 1) (by decide) (by rw [g20, if_neg n1, if_pos (g1.mpr q1)]) (by (repeat' split); all_goals omega) (by (repeat' split); all_goals omega) (by omega)
          · exact fin1 (by decide) (by rw [g20, if_neg n1, if_neg (fun h => q1 (g1.mp h))]) (by (repeat' split); all_goals omega)
      · by_cases n1 : L ≤ a + 1
        · exact fin0 (x := L) (k := 1) (by decide) (by rw [g30, if_pos n1]) (by (repeat' split); all_goals omega) (by (repeat' split); all_goals omega) (by omega)
        · by_cases q1 : c1 < lo ∨ hi < c1
          · exact fin0 (x := a + 1) (k := 1) (by decide) (by rw [g30, if_neg n1, if_pos (g1.mpr q1)]) (by (repeat' split); all_goals omega) (by (repeat' split); all_goals omega) (by omega)
          · skip
            by_cases n2 : L ≤ a + 2
            · exact fin0 (x := L) (k := 2) (by decide) (by rw [g30, if_neg n1, if_neg (fun h => q1 (g1.mp h)), if_pos n2]) (by (repeat' split); all_goals omega) (by (repeat' split); all_goals omega) (by omega)
            · by_cases q2 : c2 < 128 ∨ 191 < c2
              · exact fin0 (x := a + 2) (k := 2) (by decide) (by rw [g30, if_neg n1, if_neg (fun h => q1 (g1.mp h)), if_neg n2, if_pos (g2.mpr q2)]) (by (repeat' split); all_goals omega) (by (repeat' split); all_goals omega) (by omega)
              · exact fin1 (by decide) (by rw [g30, if_neg n1, if_neg (fun h => q1 (g1.mp h)), if_neg n2, if_neg (fun h => q2 (g2.mp h))]) (by (repeat' split); all_goals omega)
      · by_cases n1 : L ≤ a + 1
        · exact fin0 (x := L) (k := 1) (by decide) (by rw [g40, if_pos n1]) (by (repeat' split); all_goals omega) (by (repeat' split); all_goals omega) (by omega)
        · by_cases q1 : c1 < lo ∨ hi < c1
          · exact fin0 (x := a + 1) (k := 1) (by decide) (by rw [g40, if_neg n1, if_pos (g1.mpr q1)]) (by (repeat' split); all_goals omega) (by (repeat' split); all_goals omega) (by omega)
          · skip
            by_cases n2 : L ≤ a + 2
            · exact fin0 (x := L) (k := 2) (by decide) (by rw [g40, if_neg n1, if_neg (fun h => q1 (g1.mp h)), if_pos n2]) (by (repeat' split); all_goals omega) (by (repeat' split); all_goals omega) (by omega)
            · by_cases q2 : c2 < 128 ∨ 191 < c2
              · exact fin0 (x := a + 2) (k := 2) (by decide) (by rw [g40, if_neg n1, if_neg (fun h => q1 (g1.mp h)), if_neg n2, if_pos (g2.mpr q2)]) (by (repeat' split); all_goals omega) (by (repeat' split); all_goals omega) (by omega)
              · skip
                by_cases n3 : L ≤ a + 3
                · exact fin0 (x := L) (k := 3) (by decide) (by rw [g40, if_neg n1, if_neg (fun h => q1 (g1.mp h)), if_neg n2, if_neg (fun h => q2 (g2.mp h)), if_pos n3]) (by (repeat' split); all_goals omega) (by (repeat' split); all_goals omega) (by omega)
                · by_cases q3 : c3 < 128 ∨ 191 < c3
                  · exact fin0 (x := a + 3) (k := 3) (by decide) (by rw [g40, if_neg n1, if_neg (fun h => q1 (g1.mp h)), if_neg n2, if_neg (fun h => q2 (g2.mp h)), if_neg n3, if_pos (g3.mpr q3)]) (by (repeat' split); all_goals omega) (by (repeat' split); all_goals omega) (by omega)
                  · exact fin1 (by decide) (by rw [g40, if_neg n1, if_neg (fun h => q1 (g1.mp h)), if_neg n2, if_neg (fun h => q2 (g2.mp h)), if_neg n3, if_neg (fun h => q3 (g3.mp h))]) (by (repeat' split); all_goals omega)
theorem ugj {b : List UInt8} : ∀ (f a : Nat), badR b f a = badAt b f a
  | 0, a => rfl
  | f + 1, a => by
    rw [badR, badAt]
    by_cases ha : a < b.length
    · rw [if_pos ha, if_pos ha]
      obtain ⟨h1, h2⟩ := umu ha
      by_cases h0 : letL (b.drop a) = 0
      · rw [if_pos h0] at h1 ⊢
        by_cases hz : ltN (bN b a) = 0
        · rw [if_pos hz] at h1 ⊢
          exact h1
        · rw [if_neg hz] at h1 ⊢
          rw [h1]
      · rw [if_neg h0] at h1 ⊢
        have e := h2 h0
        have hz : ¬ ltN (bN b a) = 0 := by rw [← e]; exact h0
        rw [if_neg hz] at h1 ⊢
        rw [h1, e]
        exact ugj f _
    · rw [if_neg ha, if_neg ha]
end Go.Proofs.YtiamjepnlnjlfaaDoor.Pi.Q
namespace Go.Proofs.YtiamjepnlnjlfaaDoor.Pi.Q
open Go Go.Proofs.YtiamjepnlnjlfaaDoor.Pi
attribute [local congr] ite_congr
variable {H : Heap} {z : Bool}
theorem ujh {n : Nat} (h : n < 256) : run (C u1o [.int .u8 n]) H = some (.ok (.int .i64 (ltN n : Nat)) H) := by
  rw [u3w]
  have hc : n < 128 ∨ (128 ≤ n ∧ n < 194) ∨ (194 ≤ n ∧ n ≤ 223) ∨ (224 ≤ n ∧ n ≤ 239) ∨ (240 ≤ n ∧ n ≤ 244) ∨ 244 < n := by omega
  rcases hc with q | q | q | q | q | q
  · have e : ltN n = 1 := by unfold ltN; (repeat' split) <;> omega
    rw [e]
    have t0 : ((n : Int) < 128) = True := eq_true (by omega)
    have t1 : ((194 : Int) ≤ (n : Int)) = False := eq_false (by omega)
    have t2 : ((n : Int) ≤ 223) = True := eq_true (by omega)
    have t3 : ((224 : Int) ≤ (n : Int)) = False := eq_false (by omega)
    have t4 : ((n : Int) ≤ 239) = True := eq_true (by omega)
    have t5 : ((240 : Int) ≤ (n : Int)) = False := eq_false (by omega)
    have t6 : ((n : Int) ≤ 244) = True := eq_true (by omega)
    simp +contextual -dsimp (disch := omega) only [↓goDown, goUp, cr, simprocAttr, t0, t1, t2, t3, t4, t5, t6]
  · have e : ltN n = 0 := by unfold ltN; (repeat' split) <;> omega
    rw [e]
    have t0 : ((n : Int) < 128) = False := eq_false (by omega)
    have t1 : ((194 : Int) ≤ (n : Int)) = False := eq_false (by omega)
    have t2 : ((n : Int) ≤ 223) = True := eq_true (by omega)
    have t3 : ((224 : Int) ≤ (n : Int)) = False := eq_false (by omega)
    have t4 : ((n : Int) ≤ 239) = True := eq_true (by omega)
    have t5 : ((240 : Int) ≤ (n : Int)) = False := eq_false (by omega)
    have t6 : ((n : Int) ≤ 244) = True := eq_true (by omega)
    simp +contextual -dsimp (disch := omega) only [↓goDown, goUp, cr, simprocAttr, t0, t1, t2, t3, t4, t5, t6]
  · have e : ltN n = 2 := by unfold ltN; (repeat' split) <;> omega
    rw [e]
    have t0 : ((n : Int) < 128) = False := eq_false (by omega)
    have t1 : ((194 : Int) ≤ (n : Int)) = True := eq_true (by omega)
    have t2 : ((n : Int) ≤ 223) = True := eq_true (by omega)
    have t3 : ((224 : Int) ≤ (n : Int)) = False := eq_false (by omega)
    have t4 : ((n : Int) ≤ 239) = True := eq_true (by omega)
    have t5 : ((240 : Int) ≤ (n : Int)) = False := eq_false (by omega)
    have t6 : ((n : Int) ≤ 244) = True := eq_true (by omega)
    simp +contextual -dsimp (disch := omega) only [↓goDown, goUp, cr, simprocAttr, t0, t1, t2, t3, t4, t5, t6]
  · have e : ltN n = 3 := by unfold ltN; (repeat' split) <;> omega
    rw [e]
    have t0 : ((n : Int) < 128) = False := eq_false (by omega)
    have t1 : ((194 : Int) ≤ (n : Int)) = True := eq_true (by omega)
    have t2 : ((n : Int) ≤ 223) = False := eq_false (by omega)
    have t3 : ((224 : Int) ≤ (n : Int)) = True := eq_true (by omega)
    have t4 : ((n : Int) ≤ 239) = True := eq_true (by omega)
    have t5 : ((240 : Int) ≤ (n : Int)) = False := eq_false (by omega)
    have t6 : ((n : Int) ≤ 244) = True := eq_true (by omega)
    simp +contextual -dsimp (disch := omega) only [↓goDown, goUp, cr, simprocAttr, t0, t1, t2, t3, t4, t5, t6]
  · have e : ltN n = 4 := by unfold ltN; (repeat' split) <;> omega
    rw [e]
    have t0 : ((n : Int) < 128) = False := eq_false (by omega)
    have t1 : ((194 : Int) ≤ (n : Int)) = True := eq_true (by omega)
    have t2 : ((n : Int) ≤ 223) = False := eq_false (by omega)
    have t3 : ((224 : Int) ≤ (n : Int)) = True := eq_true (by omega)
    have t4 : ((n : Int) ≤ 239) = False := eq_false (by omega)
    have t5 : ((240 : Int) ≤ (n : Int)) = True := eq_true (by omega)
    have t6 : ((n : Int) ≤ 244) = True := eq_true (by omega)
    simp +contextual -dsimp (disch := omega) only [↓goDown, goUp, cr, simprocAttr, t0, t1, t2, t3, t4, t5, t6]
  · have e : ltN n = 0 := by unfold ltN; (repeat' split) <;> omega
    rw [e]
    have t0 : ((n : Int) < 128) = False := eq_false (by omega)
    have t1 : ((194 : Int) ≤ (n : Int)) = True := eq_true (by omega)
    have t2 : ((n : Int) ≤ 223) = False := eq_false (by omega)
    have t3 : ((224 : Int) ≤ (n : Int)) = True := eq_true (by omega)
    have t4 : ((n : Int) ≤ 239) = False := eq_false (by omega)
    have t5 : ((240 : Int) ≤ (n : Int)) = True := eq_true (by omega)
    have t6 : ((n : Int) ≤ 244) = False := eq_false (by omega)
    simp +contextual -dsimp (disch := omega) only [↓goDown, goUp, cr, simprocAttr, t0, t1, t2, t3, t4, t5, t6]
theorem uh9 {f k c : Nat} (h : c < 256) : run (C u14 [.int .u8 f, .int .i64 k, .int .u8 c]) H = some (.ok (.bool (folR f k c)) H) := by
  have e : ∀ {lo hi : Nat}, run (u02 (.int .u8 c) (.bool false) (.int .u8 lo) (.int .u8 hi)) H = some (.ok (.bool (decide (lo ≤ c ∧ c ≤ hi))) H) := by
    intro lo hi
    rw [u2t]
    by_cases g : lo ≤ c
    · have g' : ((lo : Int) ≤ (c : Int)) = True := eq_true (by omega)
      have d : decide ((c : Int) ≤ (hi : Int)) = decide (lo ≤ c ∧ c ≤ hi) := by
        apply decide_eq_decide.mpr; omega
      simp +contextual -dsimp (disch := omega) only [↓goDown, goUp, cr, simprocAttr, g', d]
    · have g' : ((lo : Int) ≤ (c : Int)) = False := eq_false (by omega)
      have d : decide (lo ≤ c ∧ c ≤ hi) = false := decide_eq_false (by omega)
      simp +contextual -dsimp (disch := omega) only [↓goDown, goUp, cr, simprocAttr, g', d]
  have e1 : run (u02 (.int .u8 c) (.bool false) (.int .u8 160) (.int .u8 191)) H = _ := e (lo := 160) (hi := 191)
  have e2 : run (u02 (.int .u8 c) (.bool false) (.int .u8 128) (.int .u8 159)) H = _ := e (lo := 128) (hi := 159)
  have e3 : run (u02 (.int .u8 c) (.bool false) (.int .u8 144) (.int .u8 191)) H = _ := e (lo := 144) (hi := 191)
  have e4 : run (u02 (.int .u8 c) (.bool false) (.int .u8 128) (.int .u8 143)) H = _ := e (lo := 128) (hi := 143)
  have e5 : run (u02 (.int .u8 c) (.bool false) (.int .u8 128) (.int .u8 191)) H = _ := e (lo := 128) (hi := 191)
  rw [u3u]
  unfold folR loR hiR
  by_cases k1 : k = 1
  · subst k1
    by_cases f1 : f = 224
    · subst f1
      simp +contextual -dsimp (disch := omega) only [↓goDown, goUp, cr, simprocAttr, e1]
    · have f1' : ((f : Int) = 224) = False := eq_false (by omega)
      by_cases f2 : f = 237
      · subst f2
        simp +contextual -dsimp (disch := omega) only [↓goDown, goUp, cr, simprocAttr, e2]
      · have f2' : ((f : Int) = 237) = False := eq_false (by omega)
        by_cases f3 : f = 240
        · subst f3
          simp +contextual -dsimp (disch := omega) only [↓goDown, goUp, cr, simprocAttr, e3]
        · have f3' : ((f : Int) = 240) = False := eq_false (by omega)
          by_cases f4 : f = 244
          · subst f4
            simp +contextual -dsimp (disch := omega) only [↓goDown, goUp, cr, simprocAttr, e4]
          · have f4' : ((f : Int) = 244) = False := eq_false (by omega)
            simp +contextual -dsimp (disch := omega) only [↓goDown, goUp, cr, simprocAttr, e5, f1', f2', f3', f4', f1, f2, f3, f4]
  · have k1' : ((k : Int) = 1) = False := eq_false (by omega)
    simp +contextual -dsimp (disch := omega) only [↓goDown, goUp, cr, simprocAttr, e5, k1', k1]
theorem ud4 {b : List UInt8} {v2 v3 : PV} {a n : Nat} (hb : b.length < 2 ^ 60) (ha : a < b.length) (hn : n ≤ 4) : ∀ (f k : Nat), n < k + f → k ≤ 5 →
    run (u0h (BS z b) v2 v3 (.int .i64 a) (.int .i64 n) (.int .i64 k)) H = match goR b a n f k with | some x => some (.ok (utfR (some x)) H) | none => run (u0k (BS z b) v2 v3 (.int .i64 (a + n : Nat))) H
  | 0, k, h, hk => by
    have g' : ((k : Int) < (n : Int)) = False := eq_false (by omega)
    have ea : ((a : Int) + (n : Int)) = ((a + n : Nat) : Int) := rfl
    have wa : IntKind.i64.wrap ((a + n : Nat) : Int) = ((a + n : Nat) : Int) := w_i64 (by omega)
    rw [u13, goR]
    simp +contextual -dsimp (disch := omega) only [↓goDown, goUp, cr, simprocAttr, g', ea, wa]
  | f + 1, k, h, hk => by
    rw [u13, goR]
    by_cases g : k < n
    · have g' : ((k : Int) < (n : Int)) = True := eq_true (by omega)
      rw [if_pos g]
      have ea : ((a : Int) + (k : Int)) = ((a + k : Nat) : Int) := rfl
      have wa : IntKind.i64.wrap ((a + k : Nat) : Int) = ((a + k : Nat) : Int) := w_i64 (by omega)
      by_cases gl : b.length ≤ a + k
      · have gl' : ((b.length : Int) ≤ ((a + k : Nat) : Int)) = True := eq_true (by omega)
        rw [if_pos gl]
        simp +contextual -dsimp (disch := omega) only [↓goDown, goUp, cr, simprocAttr, g', ea, wa, List.length_map, gl', utfR]
      · have gl' : ((b.length : Int) ≤ ((a + k : Nat) : Int)) = False := eq_false (by omega)
        rw [if_neg gl]
        have i1 := fun K => iaB (H := K) (z := z) (p := b) (i := a) ha
        have i2 := fun K => iaB (H := K) (z := z) (p := b) (i := a + k) (by omega)
        have hf := fun K => uh9 (H := K) (f := bN b a) (k := k) (c := bN b (a + k)) bN_lt
        cases hc : folR (bN b a) k (bN b (a + k)) with
        | false =>
          rw [hc] at hf
          rw [if_pos rfl]
          simp +contextual -dsimp (disch := omega) only [↓goDown, goUp, cr, simprocAttr, g', ea, wa, List.length_map, gl', i1, i2, hf, un_not, utfR]
        | true =>
          rw [hc] at hf
          rw [if_neg (by decide)]
          have ih := ud4 (v2 := v2) (v3 := v3) hb ha hn f (k + 1) (by omega) (by omega)
          have ek : ((k : Int) + 1) = ((k + 1 : Nat) : Int) := rfl
          have wk : IntKind.i64.wrap ((k + 1 : Nat) : Int) = ((k + 1 : Nat) : Int) := w_i64 (by omega)
          simp +contextual -dsimp (disch := omega) only [↓goDown, goUp, cr, simprocAttr, g', ea, wa, List.length_map, gl', i1, i2, hf, un_not, ek, wk, ih]
    · have g' : ((k : Int) < (n : Int)) = False := eq_false (by omega)
      rw [if_neg g]
      have ea : ((a : Int) + (n : Int)) = ((a + n : Nat) : Int) := rfl
      have wa : IntKind.i64.wrap ((a + n : Nat) : Int) = ((a + n : Nat) : Int) := w_i64 (by omega)
      simp +contextual -dsimp (disch := omega) only [↓goDown, goUp, cr, simprocAttr, g', ea, wa]
theorem lt_le {c : Nat} : ltN c ≤ 4 := by unfold ltN; (repeat' split) <;> omega
theorem udc {b : List UInt8} {v2 v3 : PV} (hb : b.length < 2 ^ 60) : ∀ (f a : Nat), b.length - a < f → a ≤ b.length + 4 →
    run (u0k (BS z b) v2 v3 (.int .i64 a)) H = some (.ok (utfR (badR b f a)) H)
  | 0, a, h, ha => by omega
  | f + 1, a, h, ha => by
    rw [u39, badR]
    by_cases hl : a < b.length
    · have g' : ((a : Int) < (b.length : Int)) = True := eq_true (by omega)
      rw [if_pos hl]
      have i1 := fun K => iaB (H := K) (z := z) (p := b) (i := a) hl
      have hf := fun K => ujh (H := K) (n := bN b a) bN_lt
      by_cases h0 : ltN (bN b a) = 0
      · rw [h0] at hf
        rw [if_pos h0]
        simp +contextual -dsimp (disch := omega) only [↓goDown, goUp, cr, simprocAttr, g', List.length_map, i1, hf, utfR, show ((0 : Nat) : Int) = 0 from rfl]
      · have h0' : ((ltN (bN b a) : Nat) : Int) = 0 ↔ False := iff_false_intro (by omega)
        rw [if_neg h0]
        have hi := ud4 (H := H) (z := z) (v2 := v2) (v3 := v3) hb hl lt_le 5 1 (Nat.lt_of_le_of_lt (lt_le (c := bN b a)) (by omega)) (by omega)
        have hi : run (u0h (BS z b) v2 v3 (.int .i64 a) (.int .i64 (ltN (bN b a) : Nat)) (.int .i64 1)) H = _ := hi
        have hlt := lt_le (c := bN b a)
        simp +contextual -dsimp (disch := omega) only [↓goDown, goUp, cr, simprocAttr, g', List.length_map, i1, hf, h0', hi]
        cases hg : goR b a (ltN (bN b a)) 5 1 with
        | some x => rfl
        | none => exact udc hb f (a + ltN (bN b a)) (by omega) (by omega)
    · have g' : ((a : Int) < (b.length : Int)) = False := eq_false (by omega)
      rw [if_neg hl]
      simp +contextual -dsimp (disch := omega) only [↓goDown, goUp, cr, simprocAttr, g', List.length_map, utfR]
theorem ua6 {b : List UInt8} (hb : b.length < 2 ^ 60) : run (C u0r [BS z b]) H = some (.ok (utfR (utfN b)) H) := by
  have h := udc (H := H) (z := z) (v2 := .int .i64 0) (v3 := .bool false) hb (b.length + 1) 0 (by omega) (by omega)
  have h : run (u0k (BS z b) (.int .i64 0) (.bool false) (.int .i64 0)) H = _ := h
  rw [ugj] at h
  rw [u4u]
  simp +contextual -dsimp (disch := omega) only [↓goDown, goUp, cr, simprocAttr, h, utfN, ujj]
end Go.Proofs.YtiamjepnlnjlfaaDoor.Pi.Q
namespace Go.Proofs.YtiamjepnlnjlfaaDoor.Pi.Q
open Go Go.Proofs.YtiamjepnlnjlfaaDoor.Pi
attribute [local congr] ite_congr
variable {H : Heap} {z : Bool}
abbrev SB (u : List UInt8) : PV := .str ⟨⟨u⟩⟩
theorem ixS_is {u : List UInt8} {i : Nat} {k : IntKind} (h : i < u.length) : run (ixS (SB u) (.int k i)) H = some (.ok (.int .u8 (bN u i : Nat)) H) := by
  unfold run ixS
  have h0 : decide ((0 : Int) ≤ (i : Int)) = true := decide_eq_true (by omega)
  simp only [h0, cond_true, Int.toNat_natCast]
  rw [show u[i]? = some u[i] from List.getElem?_eq_getElem h]
  unfold bN
  simp [List.getD_eq_getElem?_getD, List.getElem?_eq_getElem h, M.pure]
theorem slS_is {u : List UInt8} {n : Nat} {k : IntKind} (h : n ≤ u.length) : run (slS (SB u) (some (.int k n)) none) H = some (.ok (SB (u.drop n)) H) := by
  unfold run slS bnd
  have h0 : decide ((0 : Int) ≤ (n : Int)) = true := decide_eq_true (by omega)
  have h1 : decide (n ≤ (ByteArray.mk ⟨u⟩).size) = true := decide_eq_true h
  simp only [h0, cond_true, Int.toNat_natCast, h1, Nat.le_refl, decide_true, Bool.and_self, M.pure]
  have e : (ByteArray.mk ⟨u⟩).extract n (ByteArray.mk ⟨u⟩).size = ByteArray.mk ⟨u.drop n⟩ := by
    have := Lib.ext_list (ByteArray.mk ⟨u⟩) n
    generalize (ByteArray.mk ⟨u⟩).extract n (ByteArray.mk ⟨u⟩).size = B at *
    obtain ⟨⟨B⟩⟩ := B
    exact congrArg (fun l => ByteArray.mk ⟨l⟩) this
  rw [e]
theorem lnS_is {u : List UInt8} : run (lnS (SB u)) H = some (.ok (.int .i64 u.length) H) := nrfl rfl
theorem le8 {u : List UInt8} (h : 8 ≤ u.length) : Lib.leNat (u.take 8) = bN u 0 + bN u 1 * 2 ^ 8 + bN u 2 * 2 ^ 16 + bN u 3 * 2 ^ 24 + bN u 4 * 2 ^ 32 + bN u 5 * 2 ^ 40 + bN u 6 * 2 ^ 48 + bN u 7 * 2 ^ 56 := by
  match u, h with
  | a0 :: a1 :: a2 :: a3 :: a4 :: a5 :: a6 :: a7 :: r, _ =>
    simp only [List.take, Lib.leNat, bN, List.getD_cons_zero, List.getD_cons_succ]
    omega
theorem jn {n x s : Nat} (hs : s ≤ 56) (hn : n < 2 ^ s) (hx : x < 256) : bi .or .none (.int .u64 n) (.int .u64 (IntKind.u64.wrap ((x : Int) * 2 ^ shiftN .u64 (s : Int)))) = M.pure (.int .u64 ((n + x * 2 ^ s : Nat) : Int)) := by
  have hp : 2 ^ s ≤ 2 ^ 56 := Nat.pow_le_pow_right (by omega) hs
  have h2 : x * 2 ^ s ≤ 255 * 2 ^ 56 := Nat.mul_le_mul (by omega) hp
  rw [run_or, (uaj (by omega) hn (by omega)).1]
theorem u5d {u : List UInt8} (h : 8 ≤ u.length) : run (C u08 [SB u]) H = some (.ok (.int .u64 (Lib.leNat (u.take 8) : Nat)) H) := by
  rw [le8 h, u30]
  have i0 := fun K => ixS_is (H := K) (u := u) (i := 0) (k := .i64) (by omega)
  have l0 : bN u 0 < 256 := bN_lt
  have w0 : IntKind.u64.wrap ((bN u 0 : Nat) : Int) = ((bN u 0 : Nat) : Int) := w_u64 (by omega)
  have i1 := fun K => ixS_is (H := K) (u := u) (i := 1) (k := .i64) (by omega)
  have l1 : bN u 1 < 256 := bN_lt
  have w1 : IntKind.u64.wrap ((bN u 1 : Nat) : Int) = ((bN u 1 : Nat) : Int) := w_u64 (by omega)
  have i2 := fun K => ixS_is (H := K) (u := u) (i := 2) (k := .i64) (by omega)
  have l2 : bN u 2 < 256 := bN_lt
  have w2 : IntKind.u64.wrap ((bN u 2 : Nat) : Int) = ((bN u 2 : Nat) : Int) := w_u64 (by omega)
  have i3 := fun K => ixS_is (H := K) (u := u) (i := 3) (k := .i64) (by omega)
  have l3 : bN u 3 < 256 := bN_lt
  have w3 : IntKind.u64.wrap ((bN u 3 : Nat) : Int) = ((bN u 3 : Nat) : Int) := w_u64 (by omega)
  have i4 := fun K => ixS_is (H := K) (u := u) (i := 4) (k := .i64) (by omega)
  have l4 : bN u 4 < 256 := bN_lt
  have w4 : IntKind.u64.wrap ((bN u 4 : Nat) : Int) = ((bN u 4 : Nat) : Int) := w_u64 (by omega)
  have i5 := fun K => ixS_is (H := K) (u := u) (i := 5) (k := .i64) (by omega)
  have l5 : bN u 5 < 256 := bN_lt
  have w5 : IntKind.u64.wrap ((bN u 5 : Nat) : Int) = ((bN u 5 : Nat) : Int) := w_u64 (by omega)
  have i6 := fun K => ixS_is (H := K) (u := u) (i := 6) (k := .i64) (by omega)
  have l6 : bN u 6 < 256 := bN_lt
  have w6 : IntKind.u64.wrap ((bN u 6 : Nat) : Int) = ((bN u 6 : Nat) : Int) := w_u64 (by omega)
  have i7 := fun K => ixS_is (H := K) (u := u) (i := 7) (k := .i64) (by omega)
  have l7 : bN u 7 < 256 := bN_lt
  have w7 : IntKind.u64.wrap ((bN u 7 : Nat) : Int) = ((bN u 7 : Nat) : Int) := w_u64 (by omega)
  simp only [show ((0 : Nat) : Int) = 0 from rfl, show ((1 : Nat) : Int) = 1 from rfl, show ((2 : Nat) : Int) = 2 from rfl, show ((3 : Nat) : Int) = 3 from rfl, show ((4 : Nat) : Int) = 4 from rfl, show ((5 : Nat) : Int) = 5 from rfl, show ((6 : Nat) : Int) = 6 from rfl, show ((7 : Nat) : Int) = 7 from rfl] at i0 i1 i2 i3 i4 i5 i6 i7
  generalize bN u 0 = c0 at *
  generalize bN u 1 = c1 at *
  generalize bN u 2 = c2 at *
  generalize bN u 3 = c3 at *
  generalize bN u 4 = c4 at *
  generalize bN u 5 = c5 at *
  generalize bN u 6 = c6 at *
  generalize bN u 7 = c7 at *
  have j1 : bi .or .none (.int .u64 ((c0 : Nat) : Int)) (.int .u64 (IntKind.u64.wrap ((c1 : Int) * 2 ^ shiftN .u64 8))) = _ := jn (n := c0) (x := c1) (s := 8) (by decide) (by omega) l1
  have j2 : bi .or .none (.int .u64 ((c0 + c1 * 2 ^ 8 : Nat) : Int)) (.int .u64 (IntKind.u64.wrap ((c2 : Int) * 2 ^ shiftN .u64 16))) = _ := jn (n := c0 + c1 * 2 ^ 8) (x := c2) (s := 16) (by decide) (by omega) l2
  have j3 : bi .or .none (.int .u64 ((c0 + c1 * 2 ^ 8 + c2 * 2 ^ 16 : Nat) : Int)) (.int .u64 (IntKind.u64.wrap ((c3 : Int) * 2 ^ shiftN .u64 24))) = _ := jn (n := c0 + c1 * 2 ^ 8 + c2 * 2 ^ 16) (x := c3) (s := 24) (by decide) (by omega) l3
  have j4 : bi .or .none (.int .u64 ((c0 + c1 * 2 ^ 8 + c2 * 2 ^ 16 + c3 * 2 ^ 24 : Nat) : Int)) (.int .u64 (IntKind.u64.wrap ((c4 : Int) * 2 ^ shiftN .u64 32))) = _ := jn (n := c0 + c1 * 2 ^ 8 + c2 * 2 ^ 16 + c3 * 2 ^ 24) (x := c4) (s := 32) (by decide) (by omega) l4
  have j5 : bi .or .none (.int .u64 ((c0 + c1 * 2 ^ 8 + c2 * 2 ^ 16 + c3 * 2 ^ 24 + c4 * 2 ^ 32 : Nat) : Int)) (.int .u64 (IntKind.u64.wrap ((c5 : Int) * 2 ^ shiftN .u64 40))) = _ := jn (n := c0 + c1 * 2 ^ 8 + c2 * 2 ^ 16 + c3 * 2 ^ 24 + c4 * 2 ^ 32) (x := c5) (s := 40) (by decide) (by omega) l5
  have j6 : bi .or .none (.int .u64 ((c0 + c1 * 2 ^ 8 + c2 * 2 ^ 16 + c3 * 2 ^ 24 + c4 * 2 ^ 32 + c5 * 2 ^ 40 : Nat) : Int)) (.int .u64 (IntKind.u64.wrap ((c6 : Int) * 2 ^ shiftN .u64 48))) = _ := jn (n := c0 + c1 * 2 ^ 8 + c2 * 2 ^ 16 + c3 * 2 ^ 24 + c4 * 2 ^ 32 + c5 * 2 ^ 40) (x := c6) (s := 48) (by decide) (by omega) l6
  have j7 : bi .or .none (.int .u64 ((c0 + c1 * 2 ^ 8 + c2 * 2 ^ 16 + c3 * 2 ^ 24 + c4 * 2 ^ 32 + c5 * 2 ^ 40 + c6 * 2 ^ 48 : Nat) : Int)) (.int .u64 (IntKind.u64.wrap ((c7 : Int) * 2 ^ shiftN .u64 56))) = _ := jn (n := c0 + c1 * 2 ^ 8 + c2 * 2 ^ 16 + c3 * 2 ^ 24 + c4 * 2 ^ 32 + c5 * 2 ^ 40 + c6 * 2 ^ 48) (x := c7) (s := 56) (by decide) (by omega) l7
  simp +contextual -dsimp (disch := omega) only [↓goDown, goUp, cr, simprocAttr, i0, w0, i1, w1, i2, w2, i3, w3, i4, w4, i5, w5, i6, w6, i7, w7, u34, j1, j2, j3, j4, j5, j6, j7]
theorem ua9 {x : Nat} (h : x < 2 ^ 64) : bi .and .none (.int .u64 (x : Int)) (.int .u64 9259542123273814144) = M.pure (.int .u64 ((x &&& 9259542123273814144 : Nat) : Int)) := by
  rw [u36, show IntKind.u64.bits = 64 from rfl]
  have e : (BitVec.ofInt 64 (x : Int) &&& BitVec.ofInt 64 9259542123273814144).toNat = x &&& 9259542123273814144 := bv_and (w := 64) (a := x) (b := 9259542123273814144) h (by decide)
  have l : x &&& 9259542123273814144 ≤ x := Nat.and_le_left
  rw [e, w_u64 (by omega)]
theorem or_and {x y : Nat} (hx : x < 2 ^ 64) (hy : y < 2 ^ 64) : bi .or .none (.int .u64 (x : Int)) (.int .u64 (y : Int)) = M.pure (.int .u64 ((x ||| y : Nat) : Int)) := by
  rw [run_or, show IntKind.u64.bits = 64 from rfl, bv_or (w := 64) hx hy]
  have := Nat.or_lt_two_pow hx hy
  rw [w_u64 (by omega)]
theorem le8_lt {u : List UInt8} : Lib.leNat (u.take 8) < 2 ^ 64 := by
  have := Lib.leNat_lt (u.take 8)
  have h : (u.take 8).length ≤ 8 := by rw [List.length_take]; omega
  exact Nat.lt_of_lt_of_le this (Nat.le_trans (Nat.pow_le_pow_right (by decide) h) (by decide))
theorem u3o {u : List UInt8} (h : 8 ≤ u.length) (hm : Lib.leNat (u.take 8) &&& 9259542123273814144 = 0) : Lib.validD u = Lib.validD (u.drop 8) := by
  have hl : (u.take 8).length = 8 := by rw [List.length_take]; omega
  have := (Lib.leNat_mask (u.take 8)).mp (by rw [hl, Lib.maskN8]; exact hm)
  exact Lib.validD_ascii 8 u this
def VOk (v2 : PV) (n : Nat) : Prop := ∀ (u : List UInt8) (H : Heap), u.length ≤ n → u.length < 2 ^ 60 → ∃ E, run (u03 (SB u) v2) H = some (.ok (.bool (Lib.validD u)) (hadd H E))
theorem fast32 {v2 v3 : PV} {n : Nat} (hm : VOk v2 n) : ∀ (f : Nat) (u : List UInt8) (H : Heap), u.length ≤ f → u.length ≤ n → u.length < 2 ^ 60 →
    ∃ E, run (u0a (SB u) v2 v3) H = some (.ok (.bool (Lib.validD u)) (hadd H E))
  | f, u, H, hf, hn, hu => by
    rw [u15]
    have hl := fun K => lnS_is (H := K) (u := u)
    obtain ⟨E, he⟩ := hm u H hn hu
    by_cases h : 32 < u.length
    · have h' : ((32 : Int) < (u.length : Int)) = True := eq_true (by omega)
      have a1 := fun K => u5d (H := K) (u := u) (by omega)
      have a2 := fun K => u5d (H := K) (u := u.drop 8) (by rw [List.length_drop]; omega)
      have a3 := fun K => u5d (H := K) (u := u.drop 16) (by rw [List.length_drop]; omega)
      have a4 := fun K => u5d (H := K) (u := u.drop 24) (by rw [List.length_drop]; omega)
      have d8 := fun K => slS_is (H := K) (u := u) (n := 8) (k := .i64) (by omega)
      have d16 := fun K => slS_is (H := K) (u := u) (n := 16) (k := .i64) (by omega)
      have d24 := fun K => slS_is (H := K) (u := u) (n := 24) (k := .i64) (by omega)
      have d32 := fun K => slS_is (H := K) (u := u) (n := 32) (k := .i64) (by omega)
      simp only [show ((8 : Nat) : Int) = 8 from rfl, show ((16 : Nat) : Int) = 16 from rfl, show ((24 : Nat) : Int) = 24 from rfl, show ((32 : Nat) : Int) = 32 from rfl] at d8 d16 d24 d32
      have l1 := le8_lt (u := u)
      have l2 := le8_lt (u := u.drop 8)
      have l3 := le8_lt (u := u.drop 16)
      have l4 := le8_lt (u := u.drop 24)
      have o1 := or_and l1 l2
      have o2 := or_and l3 l4
      have o3 := or_and (Nat.or_lt_two_pow l1 l2) (Nat.or_lt_two_pow l3 l4)
      have ma := ua9 (Nat.or_lt_two_pow (Nat.or_lt_two_pow l1 l2) (Nat.or_lt_two_pow l3 l4))
      by_cases g : ((Lib.leNat (u.take 8) ||| Lib.leNat ((u.drop 8).take 8)) ||| (Lib.leNat ((u.drop 16).take 8) ||| Lib.leNat ((u.drop 24).take 8))) &&& 9259542123273814144 = 0
      · skip
        have g' := g
        rw [Lib.or_mask, Lib.or_mask, Lib.or_mask] at g
        obtain ⟨⟨g1, g2⟩, g3, g4⟩ := g
        have e : Lib.validD u = Lib.validD (u.drop 32) := by
          rw [u3o (by omega) g1, u3o (by rw [List.length_drop]; omega) g2, List.drop_drop, u3o (by rw [List.length_drop]; omega) g3, List.drop_drop, u3o (by rw [List.length_drop]; omega) g4, List.drop_drop]
        obtain ⟨f, rfl⟩ : ∃ k, f = k + 1 := ⟨f - 1, by omega⟩
        obtain ⟨E, ih⟩ := fast32 hm (v3 := v3) f (u.drop 32) H (by rw [List.length_drop]; omega) (by rw [List.length_drop]; omega) (by rw [List.length_drop]; omega)
        refine ⟨E, ?_⟩
        rw [e]
        rw [g'] at ma
        simp +contextual -dsimp (disch := omega) only [↓goDown, goUp, cr, simprocAttr, u0f, h', a1, a2, a3, a4, d8, d16, d24, d32, o1, o2, o3, ma, ih]
      · refine ⟨E, ?_⟩
        have g' : (((((Lib.leNat (u.take 8) ||| Lib.leNat ((u.drop 8).take 8)) ||| (Lib.leNat ((u.drop 16).take 8) ||| Lib.leNat ((u.drop 24).take 8))) &&& 9259542123273814144 : Nat) : Int) = 0) = False := eq_false (by omega)
        simp +contextual -dsimp (disch := omega) only [↓goDown, goUp, cr, simprocAttr, u0f, h', a1, a2, a3, a4, d8, d16, d24, d32, o1, o2, o3, ma, g', u05, he]
    · have h' : ((32 : Int) < (u.length : Int)) = False := eq_false (by omega)
      refine ⟨E, ?_⟩
      simp +contextual -dsimp (disch := omega) only [↓goDown, goUp, cr, simprocAttr, u0f, h', u05, he]
end Go.Proofs.YtiamjepnlnjlfaaDoor.Pi.Q
